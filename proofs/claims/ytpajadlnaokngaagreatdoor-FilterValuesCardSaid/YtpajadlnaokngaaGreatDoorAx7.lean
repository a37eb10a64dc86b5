/- A part of the proof. -/
import Derived.Test.YtpajadlnaokngaaGreatDoorAx6
import Derived.IntWalk
set_option linter.unusedVariables false
set_option linter.unusedSimpArgs false
set_option linter.unusedSectionVars false
namespace Go.Ax
open Go
def iV(l:List AV):Prop:=∀a∈l,NN a
theorem iV.get{l:List AV}(h:iV l)(j:Nat)(c:AV)(hc:l[j]? = some c):NN c:=h c (RC hc)
theorem iV.nil:iV []:=fun a h=>by cases h
theorem iV.cons{a:AV}{l:List AV}(h:NN a)(hl:iV l):iV (a::l):=fun b hb=>by
 rcases Qw.1 hb with rfl|hb
 ·exact h
 ·exact hl b hb
theorem NN.agg'{cs:List AV}(h:iV cs):NN (.agg cs):=.agg cs h.get
theorem NN.tup'{cs:List AV}(h:iV cs):NN (.tup cs):=.tup cs h.get
theorem NN.cells{v:AV}(h:NN v):iV v.cells:=by
 cases v with
 | agg cs=>cases h with|agg _ hn=>intro a ha;obtain⟨j,hj⟩:=RQ ha;exact hn j a hj
 | _=>intro a ha;simp[AV.cells] at ha;subst ha;exact h
theorem NN.il'{sz:Nat}{xs:List AV}(h:iV xs):NN (.il sz xs):=.il sz xs fun i x j c hi hj=>(h.get i x hi).cells.get j c hj
theorem NN.ip'{v:AV}(h:NN v):NN (.ip v):=.ip v fun j c hj=>h.cells.get j c hj
def a7(P:Program)(Γ:List (Nat × AV))(F:FuncId)(args:List AV)(r:AV):Prop:=aF P Γ F args [] 0 fun r' m n=>r'=r/\m=[]/\n=0
section
variable {P:Program} {Γ:List (Nat × AV)} {F:FuncId} {args:List AV} {r:AV} {mem:aN} {nx:Nat} {K:AV->aN->Nat->Prop}
theorem AE{mem:aN}{σ:List (Nat × Nat)}(ha:iV args):lL mem σ args args:=
 ⟨rfl,fun j c c' h1 h2=>by rw[h1] at h2;cases h2;exact .same c (ha.get j c h1)⟩
theorem aF.call0{Qs:AV->aN->Nat->Prop}(hΓ:∀p∈Γ,NN p.2)(h:aF P Γ F args [] 0 Qs)(ha:iV args)
  (hk:∀r m n,Qs r m n->∃r',Cv m [] r r'/\K r' mem nx):aF P Γ F args mem nx K:=by
 refine⟨fun X D ρ w vs hD hm hv=>?_⟩;refine(aF.use (K:=K) (nx:=nx) hΓ h [] (m1:=[]) (rest:=mem) ⟨(fun p hp=>by cases hp),fun p hp=>hp,fun p hp=>.inr hp,(fun p hp=>by cases hp),by simp⟩ hm.nod (AE ha) (fun p hp=>by cases hp) (by simp) (fun i j k h=>by simp[lk] at h) (fun id i h=>by simp[lk] at h) ?_).run X D ρ w vs hD hm hv;intro r m n hq _;obtain⟨r',h1,h2⟩:=hk r m n hq;exact⟨[],r',[],nx,Q5 _,h1,(fun p hp=>by cases hp),by simp,(fun i j k h=>by simp[lk] at h),(fun i id h=>by simp[lk] at h),(fun p hp=>by cases hp),h2⟩
theorem a7.use(h:a7 P Γ F args r)(hΓ:∀p∈Γ,NN p.2)(ha:iV args)(hr:NN r)(hk:K r mem nx):aF P Γ F args mem nx K:=
 aF.call0 hΓ h ha fun r' m n ⟨e1,e2,e3⟩=>⟨r,by rw[e1];exact .same r hr,hk⟩
theorem a7.lend{as:List AV}(h:a7 P Γ F as r)(hΓ:∀p∈Γ,NN p.2)(ha:lL mem [] args as)(hr:Sc r)(hk:K r mem nx):aF P Γ F args mem nx K:=
 aF.lend hΓ h ha fun r' m n ⟨e1,e2,e3⟩=>⟨by rw[e1];exact hr,by rw[e1];exact hk⟩
theorem a7.drop{as:List AV}(h:a7 P Γ F as r)(hΓ:∀p∈Γ,NN p.2)(ha:lL mem [] args as)(hr:NN r)(hk:K r [] nx):aF P Γ F args mem nx K:=by
 refine⟨fun X D ρ w vs hD hm hv=>?_⟩;refine(aF.use (K:=K) (nx:=nx) hΓ h [] (m1:=mem) (rest:=[]) ⟨fun p hp=>hp,(fun p hp=>by cases hp),fun p hp=>.inl hp,(fun p _ q hq=>by cases hq),hm.nod⟩ (by simp) ha (fun p hp=>by cases hp) (by simp) (fun i j k h=>by simp[lk] at h) (fun id i h=>by simp[lk] at h) ?_).run X D ρ w vs hD hm hv;rintro r' m n ⟨rfl,rfl,rfl⟩ _;exact⟨[],r',[],nx,Q5 _,.same r' hr,(fun p hp=>by cases hp),by simp,(fun i j k h=>by simp[lk] at h),(fun i id h=>by simp[lk] at h),(fun p hp=>by cases hp),hk⟩
theorem a7.useC{as:List AV}(h:a7 P Γ F as r)(hΓ:∀p∈Γ,NN p.2)(ha:lL [] [] args as)(hr:NN r)(hk:K r mem nx):aF P Γ F args mem nx K:=by
 refine⟨fun X D ρ w vs hD hm hv=>?_⟩;refine(aF.use (K:=K) (nx:=nx) hΓ h [] (m1:=[]) (rest:=mem) ⟨(fun p hp=>by cases hp),fun p hp=>hp,fun p hp=>.inr hp,(fun p hp=>by cases hp),by simp⟩ hm.nod ha (fun p hp=>by cases hp) (by simp) (fun i j k h=>by simp[lk] at h) (fun id i h=>by simp[lk] at h) ?_).run X D ρ w vs hD hm hv;rintro r' m n ⟨rfl,rfl,rfl⟩ _;exact⟨[],r',[],nx,Q5 _,.same r' hr,(fun p hp=>by cases hp),by simp,(fun i j k h=>by simp[lk] at h),(fun i id h=>by simp[lk] at h),(fun p hp=>by cases hp),hk⟩
theorem aB{Q:AV->aN->Nat->Prop}{m:aN}{n:Nat}(hr:NN r)(hq:Q r [] 0):nF 0 Q r m n:=
 ⟨[],r,[],0,⟨.same r hr,(fun p hp=>by cases hp),by simp,(fun i j k h=>by simp[lk] at h),(fun id i h=>by simp[lk] at h),Q5 _⟩,hq⟩
theorem dK{Q:AV->aN->Nat->Prop}{m:aN}{n:Nat}{r':AV}(hr:Cv m [] r r')(hq:Q r' [] 0):nF 0 Q r m n:=
 ⟨[],r',[],0,⟨hr,(fun p hp=>by cases hp),by simp,(fun i j k h=>by simp[lk] at h),(fun id i h=>by simp[lk] at h),Q5 _⟩,hq⟩
theorem bD:∀p∈([]:List (Nat × AV)),NN p.2:=fun p hp=>by cases hp
end
inductive Em {α:Type} (B:Nat) (R:α->Prop) (I:α->St) (μ:α->Nat) (x:α) (s:St):Prop
 | mk (y:α) (σ:List (Nat × Nat)):R y->Conv B σ s (I y)->μ y<μ x->Em B R I μ x s
theorem dO.loopAt{P:Program}{Γ:List (Nat × AV)}{B:Nat}{c:Code}{s:St}{Q:Exit->St->Prop}{α:Type}(hΓ:∀p∈Γ,NN p.2)(R:α->Prop)(I:α->St)(μ:α->Nat)(x:α)(σ:List (Nat × Nat))(hx:R x)(h0:Conv B σ s (I x))
  (h:∀x,R x->uU false P Γ (Fe P Γ B) c (I x) fun e s=>match e with
   | .normal=>Em B R I μ x s
   | e=>Q e s):dO P Γ B (.loop c) s Q:=by
 refine dO.conv hΓ h0 ?_;refine dO.loop (α:={ x:α // R x }) hΓ (fun x=>I x.1) (fun x=>μ x.1) (fun x=>?_) ⟨x,hx⟩;refine(cT oJ c _ _ (h x.1 x.2)).mono fun e s h=>?_
 cases e with
 | normal=>
  obtain⟨y,σ,hy,hc,hlt⟩:=(show Em B R I μ x.1 s from h)
  exact⟨⟨y,hy⟩,σ,hc,hlt⟩
 | exit i=>exact h
 | goto l=>exact h
 | ret=>exact h
 | panic c=>exact h
 | outgrown=>exact h
theorem PE{l h m n:Nat}(h1:l<=h)(h2:h<=m)(h3:m<=n):(Nat.ble l h && (Nat.ble h m && Nat.ble m n))=true:=by
 rw[Qy h1,Qy h2,Qy h3];rfl
theorem K2{a n m:Nat}(h:n<=m):(Nat.beq a a && Nat.ble n m)=true:=by
 rw[Qy h];simp
theorem bM{e sz size bytes len n k:Nat}(h1:Nat.beq sz size=true)(hb:Nat.ble bytes 4096=true)(h2:len=n)(h3:len+k<=34359738368) :
  (Nat.beq e e && (Nat.beq sz size && (Nat.beq len n && (Nat.ble ((len+k)*bytes) 140737488355328 && Nat.ble (len+k) 9223372036854775807))))=true:=by
 have hb:=Qu hb;have hm:(len+k)*bytes<=34359738368*4096:=SL h3 hb;rw[h1,h2,Qy (by rw[h2] at hm;omega),Qy om];simp
theorem uY{bytes k:Nat}(hb:Nat.ble bytes 4096=true)(h3:k<=34359738368):(Nat.ble (k*bytes) 140737488355328 && Nat.ble k 9223372036854775807)=true:=by
 have hb:=Qu hb;have hm:k*bytes<=34359738368*4096:=SL h3 hb;rw[Qy om,Qy om];rfl
def wI(mem:aN)(σ:List (Nat × Nat))(sl:List (Nat × AV)):List (Nat × AV)->Prop
 | []=>True
 | (i,v')::r=>(∃v,lk sl i=some v/\Cv mem σ v v')/\wI mem σ sl r
theorem wI.get{mem:aN}{σ:List (Nat × Nat)}{sl:List (Nat × AV)}:∀{sl':List (Nat × AV)},wI mem σ sl sl'->∀i v',lk sl' i=some v'->∃v,lk sl i=some v/\Cv mem σ v v'
 | [],h,i,v',hi=>by simp[lk] at hi
 | (j,u)::r,h,i,v',hi=>by
  simp only[lk] at hi;split at hi
  ·rename_i e;cases hi;rw[←Nat.eq_of_beq_eq_true e];exact h.1
  ·exact wI.get h.2 i v' hi
theorem bC{B:Nat}{sl sl':List (Nat × AV)}{mem:aN}{nx nt:Nat}(h:wI mem [] sl sl'):Conv B [] ⟨sl,mem,nx,nt⟩ ⟨sl',[],B,nt⟩:=
 ⟨rfl,fun i v' hi=>h.get i v' hi,(fun p hp=>by cases hp),by simp,(fun i j k h=>by simp[lk] at h),(fun id i h=>by simp[lk] at h),Q5 _⟩
theorem Cv.eq{mem:aN}{σ:List (Nat × Nat)}{v v':AV}(hn:NN v')(h:v=v'):Cv mem σ v v':=by rw[h];exact .same v' hn
theorem Cv.slE{mem:aN}{σ:List (Nat × Nat)}{id id' off len len':Nat}(h:lk σ id=some id')(e:len=len'):Cv mem σ (.sl id off len) (.sl id' off len'):=by rw[←e];exact .sl id id' off len h
section
variable {mem:aN} {σ:List (Nat × Nat)}
theorem lL.nil:lL mem σ [] []:=⟨rfl,fun j c c' h=>by simp at h⟩
theorem lL.cons{a b:AV}{as bs:List AV}(h:Cv mem σ a b)(hs:lL mem σ as bs):lL mem σ (a::as) (b::bs):=by
 refine⟨by simp[hs.1],fun j c c' h1 h2=>?_⟩;cases j with
 | zero=>simp at h1 h2;subst h1 h2;exact h
 | succ j=>simp at h1 h2;exact hs.2 j c c' h1 h2
theorem lL.same{l:List AV}(h:iV l):lL mem σ l l:=AE h
theorem Cv.agg'{cs cs':List AV}(h:lL mem σ cs cs'):Cv mem σ (.agg cs) (.agg cs'):=.agg cs cs' h.1 h.2
theorem Cv.tup'{cs cs':List AV}(h:lL mem σ cs cs'):Cv mem σ (.tup cs) (.tup cs'):=.tup cs cs' h.1 h.2
theorem E6.same{x:AV}(h:NN x):E6 mem σ x x:=⟨rfl,(lL.same h.cells).2⟩
theorem E6.agg{cs cs':List AV}(h:lL mem σ cs cs'):E6 mem σ (.agg cs) (.agg cs'):=h
theorem E6.one{x y:AV}(hx:x.cells=[x])(hy:y.cells=[y])(h:Cv mem σ x y):E6 mem σ x y:=by
 unfold E6;rw[hx,hy];exact lL.cons h .nil
theorem r9.same{xs:List AV}(h:iV xs):r9 mem σ xs xs:=
 ⟨Q5 _,fun i x y h1 h2=>by rw[h1] at h2;cases h2;exact .same (h.get i x h1)⟩
theorem r9.nil{xs:List AV}:r9 mem σ xs []:=⟨by simp,fun i x y h1 h2=>by simp at h2⟩
theorem r9.cons{x y:AV}{xs ys:List AV}(h:E6 mem σ x y)(hs:r9 mem σ xs ys):r9 mem σ (x::xs) (y::ys):=by
 refine⟨by simp[hs.1],fun i a b h1 h2=>?_⟩;cases i with
 | zero=>simp at h1 h2;subst h1 h2;exact h
 | succ i=>simp at h1 h2;exact hs.2 i a b h1 h2
theorem r9.snoc{xs ys:List AV}{x y:AV}(hl:xs.length=ys.length)(hs:r9 mem σ xs ys)(h:E6 mem σ x y):r9 mem σ (xs++[x]) (ys++[y]):=by
 refine⟨by simp[hl],fun i a b h1 h2=>?_⟩;rcases Q6 i xs.length with hi|hi
 ·rw[RN hi] at h1;rw[RN om] at h2;exact hs.2 i a b h1 h2
 ·rw[RR hi] at h1;rw[RR om,←hl] at h2;generalize i-xs.length=q at h1 h2;cases q with
  | zero=>simp at h1 h2;subst h1 h2;exact h
  | succ q=>simp at h1
theorem r9.to{xs xs' ys:List AV}(h:r9 mem σ xs ys)(e:xs'=xs):r9 mem σ xs' ys:=by rw[e];exact h
theorem r9.eq{xs ys:List AV}(h:iV ys)(e:xs=ys):r9 mem σ xs ys:=by rw[e];exact .same h
theorem Cv.fz'{id off len:Nat}{t:TypeId}{sz:Nat}{xs ys:List AV}(h1:lk mem id=some (.row t sz xs))(h2:lk σ id=none)(h3:off+len<=xs.length)(h4:(xs.drop off).take len=ys)(h5:iV ys):Cv mem σ (.sl id off len) (.il sz ys):=by
 have hg:∀(i:Nat) (x y:AV),xs[off+i]? = some x->ys[i]? = some y->x=y:=by
  intro i x y hx hy;rw[←h4,RO] at hy;split at hy
  ·rw[RU,hx] at hy;exact Option.some.inj hy
  ·cases hy
 refine .fz id off len t sz xs ys h1 h2 h3 (by rw[←h4];simp;omega) (fun i x y hx hy=>by rw[hg i x y hx hy]) (fun i x y j c c' hx hy hc hc'=>?_);rw[hg i x y hx hy] at hc;rw[hc] at hc';cases hc';exact .same c ((h5.get i y hy).cells.get j c hc)
def cP(mem:aN)(σ:List (Nat × Nat)):aN->Prop
 | []=>True
 | (id',b)::r=>(match b with
   | .row t sz ys=>∃id xs,lk σ id=some id'/\lk mem id=some (.row t sz xs)/\r9 mem σ xs ys
   | .mapb es'=>∃id es,lk σ id=some id'/\lk mem id=some (.mapb es)/\QI mem σ es es'
   | .loop sl' nt ps ca cb st pd=>∃id sl,lk σ id=some id'/\lk mem id=some (.loop sl nt ps ca cb st pd)/\QQ mem σ sl sl')/\cP mem σ r
theorem cP.cvm:∀{mem':aN},cP mem σ mem'->N7 mem σ mem'
 | [],h=>fun p hp=>by cases hp
 | (id',b)::r,h=>fun p hp=>by
  rcases Qw.1 hp with rfl|hp
  ·have h1:=h.1;cases b with
   | row t sz ys=>
    obtain⟨id,xs,e1,e2,e3⟩:=h1;exact .inl ⟨id,t,sz,xs,ys,rfl,e1,e2,e3⟩
   | mapb es'=>
    obtain⟨id,es,e1,e2,e3⟩:=h1;exact .inr (.inl ⟨id,es,es',rfl,e1,e2,e3⟩)
   | loop sl' nt ps ca cb st pd=>
    obtain⟨id,sl,e1,e2,e3⟩:=h1;exact .inr (.inr ⟨id,sl,sl',nt,ps,ca,cb,st,pd,rfl,e1,e2,e3⟩)
  ·exact cP.cvm h.2 p hp
def B8(n:Nat):List (Nat × Nat)->Bool
 | []=>true
 | (_,m)::r=>!Nat.beq m n && B8 n r
def uG:List (Nat × Nat)->Bool
 | []=>true
 | (_,m)::r=>B8 m r && uG r
def wH(n:Nat):aN->Bool
 | []=>true
 | (m,_)::r=>!Nat.beq m n && wH n r
def t8:aN->Bool
 | []=>true
 | (m,_)::r=>wH m r && t8 r
def xJ(B n:Nat):List (Nat × Nat)->Bool
 | []=>true
 | (i,j)::r=>((Nat.ble B j || Nat.beq i j) && Nat.blt j n) && xJ B n r
theorem lN:∀{n:Nat} {σ:List (Nat × Nat)},B8 n σ=true->∀p∈σ,p.2≠n
 | n,[],h,p,hp=>by cases hp
 | n,(i,m)::r,h,p,hp=>by
  simp only[B8,Qt] at h;rcases Qw.1 hp with rfl|hp
  ·intro e;simp only at e;subst e;simp at h
  ·exact lN h.2 p hp
theorem FL:∀{σ:List (Nat × Nat)},uG σ=true->∀p∈σ,∀q∈σ,p.2=q.2->p=q
 | [],h,p,hp=>by cases hp
 | (i,m)::r,h,p,hp=>by
  simp only[uG,Qt] at h;intro q hq e;rcases Qw.1 hp with rfl|hp<;>rcases Qw.1 hq with rfl|hq
  ·rfl
  ·exact absurd e.symm (lN h.1 q hq)
  ·exact absurd e (lN h.1 p hp)
  ·exact FL h.2 p hp q hq e
theorem kP{σ:List (Nat × Nat)}(h:uG σ=true):L6 σ:=fun i j k h1 h2=>by
 have:=FL h _ (a6 h1) _ (a6 h2) rfl;exact congrArg Prod.fst this
theorem v8:∀{n:Nat} {m:aN},wH n m=true->n∉m.map (·.1)
 | n,[],h=>by simp
 | n,(k,b)::r,h=>by
  simp only[wH,Qt] at h;simp only[Rm,Qw,not_or];refine⟨?_,v8 h.2⟩;intro e;subst e;simp at h
theorem dR:∀{m:aN},t8 m=true->(m.map (·.1)).Nodup
 | [],h=>by simp
 | (k,b)::r,h=>by
  simp only[t8,Qt] at h;simp only[Rm,RX];exact⟨v8 h.1,dR h.2⟩
theorem xQ{B n:Nat}:∀{σ:List (Nat × Nat)},xJ B n σ=true->∀id id',lk σ id=some id'->(id'<B->id'=id)/\id'<n:=by
 intro σ h id id' hl;have hmem:=a6 hl;clear hl
 induction σ with
 | nil=>cases hmem
 | cons p r ih=>
  obtain⟨i,j⟩:=p;simp only[xJ,Qt,Rq] at h;rcases Qw.1 hmem with e|hmem
  ·cases e;refine⟨fun hb=>?_,Qu h.1.2⟩;rcases h.1.1 with h1|h1
   ·have a2:=Qu h1;omega
   ·exact(Nat.eq_of_beq_eq_true h1).symm
  ·exact ih h.2 hmem
theorem aI{B:Nat}{sl sl':List (Nat × AV)}{mem':aN}{nx nx' nt:Nat}(σ:List (Nat × Nat))(hc:(uG σ && (t8 mem' && (xJ B nx' σ && Nat.ble B nx')))=true)(hm:cP mem σ mem')(h:wI mem σ sl sl') :
  Conv B σ ⟨sl,mem,nx,nt⟩ ⟨sl',mem',nx',nt⟩:=by
 simp only[Qt] at hc;exact⟨rfl,fun i v' hi=>h.get i v' hi,hm.cvm,dR hc.2.1,kP hc.1,xQ hc.2.2.1,Qu hc.2.2.2⟩
theorem b8{B:Nat}{Q:AV->aN->Nat->Prop}{r r':AV}{m':aN}{n n':Nat}(σ:List (Nat × Nat))(hc:(uG σ && (t8 m' && (xJ B n' σ && Nat.ble B n')))=true)(hm:cP mem σ m')(hr:Cv mem σ r r')(hq:Q r' m' n'):nF B Q r mem n:=by
 simp only[Qt] at hc;exact .mk σ r' m' n' ⟨hr,hm.cvm,dR hc.2.1,kP hc.1,xQ hc.2.2.1,Qu hc.2.2.2⟩ hq
end
theorem p8:∀{m:aN} {id:Nat} {p:Nat × AB},p∈m->p.1≠id->p∈drop id m
 | (k,u)::r,id,p,hp,hne=>by
  simp only[drop];rcases Qw.1 hp with rfl|hp
  ·rw[oI hne];exact RP ..
  ·split
   ·exact hp
   ·exact RA _ (p8 hp hne)
theorem aF.use1{P:Program}{Γ:List (Nat × AV)}{F:FuncId}{as args:List AV}{mem:aN}{nx:Nat}{t:TypeId}{sz:Nat}{xs:List AV}{Qs K:AV->aN->Nat->Prop}(hΓ:∀p∈Γ,NN p.2)
  (h:aF P Γ F as [(0,.row t sz xs)] 1 Qs) (g:Nat) (hg:lk mem g=some (.row t sz xs)) (hx:iV xs) (hargs:lL [(g,.row t sz xs)] [(g,0)] args as)
  (hk:∀r m n,Qs r m n->∃xs',m=[(0,.row t sz xs')]/\NN r/\iV xs'/\CA g mem fun rest=>K r ((g,.row t sz xs')::rest) nx):aF P Γ F args mem nx K:=by
 refine⟨fun X D ρ w vs hD hm hv=>?_⟩;refine(aF.use (K:=K) (nx:=nx) hΓ h [(g,0)] (m1:=[(g,.row t sz xs)]) (rest:=drop g mem) ⟨fun p hp=>?_,fun p hp=>bZ hp,fun p hp=>?_,fun p hp q hq=>?_,by simp⟩ (gU hm.nod) hargs (fun p hp=>?_) (by simp) (kP (by rfl)) (fun id i hl=>?_) ?_).run X D ρ w vs hD hm hv
 ·simp at hp;subst hp;exact a6 hg
 ·by_cases hpg:p.1=g
  ·left;have:=nR hm.nod hp (a6 hg) hpg;rw[this];simp
  ·exact .inr (p8 hp hpg)
 ·simp at hp;subst hp;exact Ne.symm (nQ hm.nod hq)
 ·simp at hp;subst hp;exact .inl ⟨g,t,sz,xs,xs,rfl,by simp[lk],by simp[lk],.same hx⟩
 ·have:=a6 hl;simp at this;omega
 ·intro r m n hq hn;obtain⟨xs',rfl,h1,h2,h3⟩:=hk r m n hq;refine⟨[(0,g)],r,[(g,.row t sz xs')],nx,Q5 _,.same r h1,fun p hp=>?_,by simp,kP (by rfl),fun i id hl=>?_,fun p hp q hq=>?_,rN.1 h3⟩
  ·simp at hp;subst hp;exact .inl ⟨0,t,sz,xs',xs',rfl,by simp[lk],by simp[lk],.same h2⟩
  ·have:=a6 hl;simp at this;obtain⟨rfl,rfl⟩:=this;exact .inl ⟨om,by simp[lk]⟩
  ·simp at hp;subst hp;exact Ne.symm (nQ hm.nod hq)
mutual
def bV:aU->AV
 | .mk k n s kids=>.agg [.int .i64 k,.int .i64 n,.str s,.il 4 (aL kids)]
def aL:List aU->List AV
 | []=>[]
 | v::r=>bV v::aL r
end
theorem fN:∀l:List aU,aL l=l.map bV
 | []=>by simp[aL]
 | v::r=>by simp[aL,fN r]
mutual
theorem dS:∀v:aU,NN (bV v)
 | .mk k n s kids=>by
  simp only[bV];exact .agg' (.cons (.int _ _) (.cons (.int _ _) (.cons (.str _) (.cons (.il' (aR kids)) .nil))))
theorem aR:∀l:List aU,iV (aL l)
 | []=>by simp only[aL];exact .nil
 | v::r=>by simp only[aL];exact .cons (dS v) (aR r)
end
def i64(n:Int):Prop:=-9223372036854775808<=n/\n<=9223372036854775807
mutual
def fY:aU->Prop
 | .mk k n s kids=>i64 k/\i64 n/\s.length<=4294967296/\kids.length<=4294967296/\wR kids
def wR:List aU->Prop
 | []=>True
 | v::r=>fY v/\wR r
end
theorem lH:∀{l:List aU},wR l->∀v∈l,fY v
 | [],_,v,h=>by cases h
 | a::r,h,v,hv=>by
  simp only[wR] at h;rcases Qw.1 hv with rfl|hv
  ·exact h.1
  ·exact lH h.2 v hv
theorem vB:∀{l:List aU},(∀v∈l,fY v)->wR l
 | [],_=>by simp[wR]
 | a::r,h=>by simp only[wR];exact⟨h a (RP ..),vB fun v hv=>h v (RA _ hv)⟩
theorem fH{n:Int}(h:i64 n):IntKind.i64.wrap n=n:=IntWalk.i64_in n h
def aW(l:List Int):List AV:=l.map (AV.int .i64)
theorem aT(l:List Int):iV (aW l):=fun a ha=>by
 obtain⟨n,_,rfl⟩:=RD.1 ha;exact .int _ _
theorem bK(l:List Int)(i:Nat):(aW l)[i]? = (l[i]?).map (AV.int .i64):=by rw[aW,Rl]
theorem aC(l:List Int):(aW l).length=l.length:=by rw[aW,SF]
theorem kI(l:List aU)(i:Nat):(aL l)[i]? = (l[i]?).map bV:=by rw[fN,Rl]
theorem aA(l:List aU):(aL l).length=l.length:=by rw[fN,SF]
end Go.Ax
namespace Go.Ax
open Go
theorem wC:∀(x y:List UInt8),Op.bytesLess x y=decide (gM x y<0)
 | [],[]=>rfl
 | [],_::_=>rfl
 | _::_,[]=>rfl
 | a::x,b::y=>by
  simp only[Op.bytesLess,gM,wC x y];by_cases h:a<b
  ·simp[h]
  ·by_cases h':b<a
   ·have hne:¬a=b:=by rintro rfl;exact h h'
    simp[h,h',hne]
   ·have he:a=b:=by
     rw[←UInt8.toNat_inj];simp only[UInt8.lt_iff_toNat_lt] at h h';omega
    subst he;simp[h]
theorem oW:∀(x y:List UInt8),gM x y = -1∨gM x y=0∨gM x y=1
 | [],[]=>by simp[gM]
 | [],_::_=>by simp[gM]
 | _::_,[]=>by simp[gM]
 | a::x,b::y=>by
  simp only[gM];split
  ·simp
  ·split
   ·simp
   ·exact oW x y
theorem kH:∀{x y:List UInt8},gM x y=0->x=y
 | [],[],_=>rfl
 | [],_::_,h=>by simp[gM] at h
 | _::_,[],h=>by simp[gM] at h
 | a::x,b::y,h=>by
  simp only[gM] at h;split at h
  ·cases h
  ·split at h
   ·cases h
   ·rename_i h1 h2;have he:a=b:=by
     rw[←UInt8.toNat_inj];simp only[UInt8.lt_iff_toNat_lt] at h1 h2;omega
    rw[he,kH h]
theorem CT{x y:List UInt8}:Op.bytesLess x y=true↔gM x y = -1:=by
 rw[wC];have:=oW x y;simp;omega
theorem Im{x y:List UInt8}(h:Op.bytesLess x y=false)(h':(!(Op.bytesLess x y || x == y))=true):gM x y=1:=by
 rw[h] at h';simp at h';rw[wC] at h;simp at h;have:=oW x y;rcases this with e|e|e
 ·omega
 ·exact absurd (kH e) h'
 ·exact e
theorem JB{x y:List UInt8}(h:Op.bytesLess x y=false)(h':(!(Op.bytesLess x y || x == y))=false):gM x y=0:=by
 rw[h] at h';simp at h';subst h';exact(nI x).refl
section
variable {ka na:Int} {sa:List UInt8} {ksa:List aU} {kb nb:Int} {sb:List UInt8} {ksb:List aU}
theorem DG{a b:Int}(h:a≠b):pM a b=if a<b then -1 else 1:=by
 unfold pM;split
 ·rfl
 ·rw[Q3 om]
theorem rH{a b:Int}(h:a≠b):pM a b≠0:=by
 rw[DG h];split<;>decide
theorem Iw(h:ka≠kb):bS (.mk ka na sa ksa) (.mk kb nb sb ksb)=if ka<kb then -1 else 1:=by
 rw[bS,andThen,Qz (rH h),DG h]
theorem J4(h:ka=kb)(h2:na≠nb):bS (.mk ka na sa ksa) (.mk kb nb sb ksb)=if na<nb then -1 else 1:=by
 rw[bS,andThen,Q3 (by rw[h];exact(iC kb).refl),andThen,Qz (rH h2),DG h2]
theorem OO(h:ka=kb)(h2:na=nb)(h3:sa≠sb):bS (.mk ka na sa ksa) (.mk kb nb sb ksb)=if Op.bytesLess sa sb=true then -1 else 1:=by
 rw[bS,andThen,Q3 (by rw[h];exact(iC kb).refl),andThen,Q3 (by rw[h2];exact(iC nb).refl),andThen,Qz (fun e=>h3 (kH e))];rcases oW sa sb with e|e|e
 ·rw[Q3 (CT.2 e),e]
 ·exact absurd (kH e) h3
 ·have:¬Op.bytesLess sa sb=true:=by rw[wC,e];simp
  rw[Qz this,e]
theorem N9(h:ka=kb)(h2:na=nb)(h3:sa=sb):bS (.mk ka na sa ksa) (.mk kb nb sb ksb)=dU ksa ksb:=by
 rw[bS,andThen,Q3 (by rw[h];exact(iC kb).refl),andThen,Q3 (by rw[h2];exact(iC nb).refl),andThen,Q3 (by rw[h3];exact(nI sb).refl)]
end
theorem CW{l1 l2:List aU}{k:Nat}(h1:k<l1.length)(h2:k<l2.length):dU (l1.drop k) (l2.drop k)=andThen (bS l1[k] l2[k]) (dU (l1.drop (k+1)) (l2.drop (k+1))):=by
 rw[List.drop_eq_getElem_cons h1,List.drop_eq_getElem_cons h2,dU]
theorem Dg{l:List aU}{k:Nat}(h:k<l.length):(aL l)[(k:Int).toNat]? = some (bV l[k]):=by
 rw[Q4,kI,Qq h];rfl
end Go.Ax
namespace Go.Ax
open Go
def gK:List aU->aU->Nat × Bool
 | [],_=>(0,false)
 | a::r,v=>if 0<=bS a v then(0,bS a v == 0) else((gK r v).1+1,(gK r v).2)
def D4(l:List aU)(k:Nat)(v:aU):Bool:=
 match l[k]? with
 | some a=>bS a v == 0
 | none=>false
theorem z6:∀{l:List aU} {v:aU} {k:Nat},k<=l.length->(∀p a,p<k->l[p]? = some a->bS a v<0)->(∀a,l[k]? = some a->0<=bS a v)->gK l v=(k,D4 l k v)
 | [],v,k,hk,h1,h2=>by
  have:k=0:=by simpa using hk
  subst this;simp[gK,D4]
 | a::r,v,0,hk,h1,h2=>by
  have:=h2 a (by simp);simp[gK,this,D4]
 | a::r,v,k+1,hk,h1,h2=>by
  have h0:=h1 0 a om (by simp);have ih:=z6 (l:=r) (v:=v) (k:=k) (by simpa using hk) (fun p b hp hb=>h1 (p+1) b om (by simpa using hb)) (fun b hb=>h2 b (by simpa using hb));rw[gK,Qz om,ih];simp[D4]
theorem Az:∀(l:List aU) (v:aU),(gK l v).1<=l.length
 | [],v=>by simp[gK]
 | a::r,v=>by
  simp only[gK];split
  ·simp
  ·have:=Az r v;simp;omega
def sV(out:List aU)(v:aU):List aU:=if (gK out v).2 then out else out.take (gK out v).1++v::out.drop (gK out v).1
def c8(l:List aU):List aU:=l.foldl sV []
theorem k7(l:List aU)(v:aU):c8 (l++[v])=sV (c8 l) v:=by simp[c8]
theorem D7{out:List aU}{v x:aU}(h:x∈sV out v):x=v∨x∈out:=by
 unfold sV at h;split at h
 ·exact .inr h
 ·rcases Q9.1 h with h|h
  ·exact .inr (Rk h)
  ·rcases Qw.1 h with h|h
   ·exact .inl h
   ·exact .inr (Rz h)
theorem EN(out:List aU)(v:aU):(sV out v).length<=out.length+1:=by
 unfold sV;split
 ·omega
 ·simp only[RY,R0,Rx,TA];have:=Az out v;omega
theorem oR:∀l:List aU,(c8 l).length<=l.length:=by
 intro l;rw[←List.reverse_reverse l];generalize l.reverse=r
 induction r with
 | nil=>simp[c8]
 | cons a r ih=>
  rw[Sm,k7];have:=EN (c8 r.reverse) a;simp only[RY,List.length_singleton];omega
theorem nD{l:List aU}{x:aU}:x∈c8 l->x∈l:=by
 rw[←List.reverse_reverse l];generalize l.reverse=r
 induction r with
 | nil=>simp[c8]
 | cons a r ih=>
  rw[Sm,k7];intro h;rcases D7 h with rfl|h
  ·simp
  ·exact RK _ (ih h)
theorem Ea{a b c:aU}(h1:bS a b<0)(h2:bS b c<=0):bS a c<0:=by
 have g:=kN a;have t:=g.trans b c om h2;rcases Int.lt_or_eq_of_le t with h|h
 ·exact h
 ·have:=(g.strict b c om h2 h).1;omega
theorem HY{a b:aU}(h:0<bS a b):bS b a<0:=by rw[(kN a).anti b];omega
def kD(l:List aU):Prop:=l.Pairwise fun a b=>bS a b<0
theorem B4(a:aU)(r:List aU)(v:aU):sV (a::r) v=if 0<=bS a v then(if bS a v == 0 then a::r else v::a::r) else a::sV r v:=by
 unfold sV;by_cases h:0<=bS a v
 ·simp only[gK,Q3 h];rfl
 ·simp only[gK,Qz h];split<;>simp_all
theorem EP:∀{l:List aU} {v:aU},kD l->kD (sV l v)
 | [],v,_=>by simp[sV,gK,kD]
 | a::r,v,h=>by
  unfold kD at h ⊢;rw[RS] at h;rw[B4];split
  ·rename_i h0;split
   ·exact RS.2 h
   ·rename_i h1;have h1:bS a v≠0:=by simpa using h1
    have hva:=HY (show 0<bS a v by omega);refine RS.2 ⟨fun b hb=>?_,RS.2 h⟩;rcases Qw.1 hb with rfl|hb
    ·exact hva
    ·exact Ea hva (by have:=h.1 b hb;omega)
  ·rename_i h0;refine RS.2 ⟨fun b hb=>?_,EP (l:=r) h.2⟩;rcases D7 hb with rfl|hb
   ·omega
   ·exact h.1 b hb
theorem sJ:∀l:List aU,kD (c8 l):=by
 intro l;rw[←List.reverse_reverse l];generalize l.reverse=r
 induction r with
 | nil=>simp[c8,kD]
 | cons a r ih=>rw[Sm,k7];exact EP ih
end Go.Ax
