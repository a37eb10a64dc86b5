/- A part of the proof. -/
import Derived.Test.YthggfhnnkclooaaGreatDoorAx6
import Derived.IntWalk
set_option linter.unusedSectionVars false
set_option linter.unusedVariables false
set_option linter.unusedSimpArgs false
set_option maxRecDepth 1000000
set_option maxHeartbeats 16000000
namespace Go.Ax
open Go
def jU(l:List AV):Prop:=∀a∈l,NN a
theorem jU.get{l:List AV}(h:jU l)(j:Nat)(c:AV)(hc:l[j]? = some c):NN c:=h c (Y2 hc)
theorem jU.nil:jU []:=λa h=>by cases h
theorem jU.cons{a:AV}{l:List AV}(h:NN a)(hl:jU l):jU (a::l):=λb hb=>by
 rcases Y6.1 hb with rfl|hb
 .exact h
 .exact hl b hb
theorem NN.agg'{cs:List AV}(h:jU cs):NN (.agg cs):=.agg cs h.get
theorem NN.tup'{cs:List AV}(h:jU cs):NN (.tup cs):=.tup cs h.get
theorem NN.cells{v:AV}(h:NN v):jU v.cells:=by
 cases v with
 | agg cs=>cases h with|agg _ hn=>intro a ha;obtain⟨j,hj⟩:=ZV ha;exact hn j a hj
 | _=>intro a ha;simp[AV.cells] at ha;subst ha;exact h
theorem NN.il'{sz:Nat}{xs:List AV}(h:jU xs):NN (.il sz xs):=.il sz xs λi x j c hi hj=>(h.get i x hi).cells.get j c hj
theorem NN.ip'{v:AV}(h:NN v):NN (.ip v):=.ip v λj c hj=>h.cells.get j c hj
def aX(P:Program)(C:List (Nat × AV))(F:FuncId)(args:List AV)(r:AV):Prop:=aJ P C F args [] 0 λr' m n=>r'=r/\m=[]/\n=0
section
variable {P:Program} {C:List (Nat × AV)} {F:FuncId} {args:List AV} {r:AV} {mem:aQ} {nx:Nat} {K:AV->aQ->Nat->Prop}
theorem Cr{mem:aQ}{J:List (Nat × Nat)}(ha:jU args):g6 mem J args args:=
 ⟨rfl,λj c c' h1 h2=>by rw[h1] at h2;cases h2;exact .same c (ha.get j c h1)⟩
theorem aJ.call0{Qs:AV->aQ->Nat->Prop}(hΓ:∀p∈C,NN p.2)(h:aJ P C F args [] 0 Qs)(ha:jU args)
  (hk:∀r m n,Qs r m n->∃r',Cv m [] r r'/\K r' mem nx):aJ P C F args mem nx K:=by
 refine⟨λX D E w vs hD hm hv=>?_⟩;refine(aJ.use (K:=K) (nx:=nx) hΓ h [] (m1:=[]) (rest:=mem) ⟨(λp hp=>by cases hp),λp hp=>hp,λp hp=>.inr hp,(λp hp=>by cases hp),sq⟩ hm.nod (Cr ha) (λp hp=>by cases hp) sq (λi j k h=>by simp[lk] at h) (λid i h=>by simp[lk] at h) ?_).run X D E w vs hD hm hv;intro r m n hq _;obtain⟨r',h1,h2⟩:=hk r m n hq;exact⟨[],r',[],nx,Y8 _,h1,(λp hp=>by cases hp),sq,(λi j k h=>by simp[lk] at h),(λi id h=>by simp[lk] at h),(λp hp=>by cases hp),h2⟩
theorem aX.use(h:aX P C F args r)(hΓ:∀p∈C,NN p.2)(ha:jU args)(hr:NN r)(hk:K r mem nx):aJ P C F args mem nx K:=
 aJ.call0 hΓ h ha λr' m n ⟨e1,e2,e3⟩=>⟨r,by rw[e1];exact .same r hr,hk⟩
theorem aX.lend{as:List AV}(h:aX P C F as r)(hΓ:∀p∈C,NN p.2)(ha:g6 mem [] args as)(hr:Sc r)(hk:K r mem nx):aJ P C F args mem nx K:=
 aJ.lend hΓ h ha λr' m n ⟨e1,e2,e3⟩=>⟨by rw[e1];exact hr,by rw[e1];exact hk⟩
theorem aX.drop{as:List AV}(h:aX P C F as r)(hΓ:∀p∈C,NN p.2)(ha:g6 mem [] args as)(hr:NN r)(hk:K r [] nx):aJ P C F args mem nx K:=by
 refine⟨λX D E w vs hD hm hv=>?_⟩;refine(aJ.use (K:=K) (nx:=nx) hΓ h [] (m1:=mem) (rest:=[]) ⟨λp hp=>hp,(λp hp=>by cases hp),λp hp=>.inl hp,(λp _ q hq=>by cases hq),hm.nod⟩ sq ha (λp hp=>by cases hp) sq (λi j k h=>by simp[lk] at h) (λid i h=>by simp[lk] at h) ?_).run X D E w vs hD hm hv;rintro r' m n ⟨rfl,rfl,rfl⟩ _;exact⟨[],r',[],nx,Y8 _,.same r' hr,(λp hp=>by cases hp),sq,(λi j k h=>by simp[lk] at h),(λi id h=>by simp[lk] at h),(λp hp=>by cases hp),hk⟩
theorem aX.useC{as:List AV}(h:aX P C F as r)(hΓ:∀p∈C,NN p.2)(ha:g6 [] [] args as)(hr:NN r)(hk:K r mem nx):aJ P C F args mem nx K:=by
 refine⟨λX D E w vs hD hm hv=>?_⟩;refine(aJ.use (K:=K) (nx:=nx) hΓ h [] (m1:=[]) (rest:=mem) ⟨(λp hp=>by cases hp),λp hp=>hp,λp hp=>.inr hp,(λp hp=>by cases hp),sq⟩ hm.nod ha (λp hp=>by cases hp) sq (λi j k h=>by simp[lk] at h) (λid i h=>by simp[lk] at h) ?_).run X D E w vs hD hm hv;rintro r' m n ⟨rfl,rfl,rfl⟩ _;exact⟨[],r',[],nx,Y8 _,.same r' hr,(λp hp=>by cases hp),sq,(λi j k h=>by simp[lk] at h),(λi id h=>by simp[lk] at h),(λp hp=>by cases hp),hk⟩
theorem aA{Q:AV->aQ->Nat->Prop}{m:aQ}{n:Nat}(hr:NN r)(hq:Q r [] 0):kH 0 Q r m n:=
 ⟨[],r,[],0,⟨.same r hr,(λp hp=>by cases hp),sq,(λi j k h=>by simp[lk] at h),(λid i h=>by simp[lk] at h),Y8 _⟩,hq⟩
theorem cW{Q:AV->aQ->Nat->Prop}{m:aQ}{n:Nat}{r':AV}(hr:Cv m [] r r')(hq:Q r' [] 0):kH 0 Q r m n:=
 ⟨[],r',[],0,⟨hr,(λp hp=>by cases hp),sq,(λi j k h=>by simp[lk] at h),(λid i h=>by simp[lk] at h),Y8 _⟩,hq⟩
theorem bJ:∀p∈([]:List (Nat × AV)),NN p.2:=λp hp=>by cases hp
end
inductive H3 {G:Type} (B:Nat) (R:G->Prop) (ah:G->St) (μ:G->Nat) (x:G) (s:St):Prop
 | mk (y:G) (J:List (Nat × Nat)):R y->Conv B J s (ah y)->μ y<μ x->H3 B R ah μ x s
theorem eH.loopAt{P:Program}{C:List (Nat × AV)}{B:Nat}{c:Code}{s:St}{Q:Exit->St->Prop}{G:Type}(hΓ:∀p∈C,NN p.2)(R:G->Prop)(ah:G->St)(μ:G->Nat)(x:G)(J:List (Nat × Nat))(hx:R x)(h0:Conv B J s (ah x))
  (h:∀x,R x->A3 false P C (Gw P C B) c (ah x) λe s=>match e with
   | .normal=>H3 B R ah μ x s
   | e=>Q e s):eH P C B (.loop c) s Q:=by
 refine eH.conv hΓ h0 ?_;refine eH.loop (G:={ x:G // R x }) hΓ (λx=>ah x.1) (λx=>μ x.1) (λx=>?_) ⟨x,hx⟩;refine(fE vU c _ _ (h x.1 x.2)).mono λe s h=>?_
 cases e with
 | normal=>
  obtain⟨y,J,hy,hc,hlt⟩:=(show H3 B R ah μ x.1 s from h)
  exact⟨⟨y,hy⟩,J,hc,hlt⟩
 | exit i=>exact h
 | goto l=>exact h
 | ret=>exact h
 | panic c=>exact h
 | outgrown=>exact h
theorem Ho{l h m n:Nat}(h1:l<=h)(h2:h<=m)(h3:m<=n):(Nat.ble l h && (Nat.ble h m && Nat.ble m n))=true:=by
 rw[Y3 h1,Y3 h2,Y3 h3];rfl
theorem Pj{a n m:Nat}(h:n<=m):(Nat.beq a a && Nat.ble n m)=true:=by
 rw[Y3 h];simp
theorem cP{e sz size bytes len n k:Nat}(h1:Nat.beq sz size=true)(hb:Nat.ble bytes 4096=true)(h2:len=n)(h3:len+k<=34359738368) :
  (Nat.beq e e && (Nat.beq sz size && (Nat.beq len n && (Nat.ble ((len+k)*bytes) 140737488355328 && Nat.ble (len+k) 9223372036854775807))))=true:=by
 have hb:=Y5 hb;have hm:(len+k)*bytes<=34359738368*4096:=Z5 h3 hb;rw[h1,h2,Y3 (by rw[h2] at hm;omega),Y3 om];simp
theorem CN{bytes k:Nat}(hb:Nat.ble bytes 4096=true)(h3:k<=34359738368):(Nat.ble (k*bytes) 140737488355328 && Nat.ble k 9223372036854775807)=true:=by
 have hb:=Y5 hb;have hm:k*bytes<=34359738368*4096:=Z5 h3 hb;rw[Y3 om,Y3 om];rfl
def BS(mem:aQ)(J:List (Nat × Nat))(sl:List (Nat × AV)):List (Nat × AV)->Prop
 | []=>True
 | (i,v')::r=>(∃v,lk sl i=some v/\Cv mem J v v')/\BS mem J sl r
theorem BS.get{mem:aQ}{J:List (Nat × Nat)}{sl:List (Nat × AV)}:∀{sl':List (Nat × AV)},BS mem J sl sl'->∀i v',lk sl' i=some v'->∃v,lk sl i=some v/\Cv mem J v v'
 | [],h,i,v',hi=>by simp[lk] at hi
 | (j,u)::r,h,i,v',hi=>by
  simp only[lk] at hi;split at hi
  .rename_i e;cases hi;rw[<-Nat.eq_of_beq_eq_true e];exact h.1
  .exact BS.get h.2 i v' hi
theorem bX{B:Nat}{sl sl':List (Nat × AV)}{mem:aQ}{nx nt:Nat}(h:BS mem [] sl sl'):Conv B [] ⟨sl,mem,nx,nt⟩ ⟨sl',[],B,nt⟩:=
 ⟨rfl,λi v' hi=>h.get i v' hi,(λp hp=>by cases hp),sq,(λi j k h=>by simp[lk] at h),(λid i h=>by simp[lk] at h),Y8 _⟩
theorem Cv.eq{mem:aQ}{J:List (Nat × Nat)}{v v':AV}(hn:NN v')(h:v=v'):Cv mem J v v':=by rw[h];exact .same v' hn
theorem Cv.slE{mem:aQ}{J:List (Nat × Nat)}{id id' off len len':Nat}(h:lk J id=some id')(e:len=len'):Cv mem J (.sl id off len) (.sl id' off len'):=by rw[<-e];exact .sl id id' off len h
section
variable {mem:aQ} {J:List (Nat × Nat)}
theorem g6.nil:g6 mem J [] []:=⟨rfl,λj c c' h=>by simp at h⟩
theorem g6.cons{a b:AV}{as bs:List AV}(h:Cv mem J a b)(hs:g6 mem J as bs):g6 mem J (a::as) (b::bs):=by
 refine⟨by simp[hs.1],λj c c' h1 h2=>?_⟩;cases j with
 | zero=>simp at h1 h2;subst h1 h2;exact h
 | succ j=>simp at h1 h2;exact hs.2 j c c' h1 h2
theorem g6.same{l:List AV}(h:jU l):g6 mem J l l:=Cr h
theorem Cv.agg'{cs cs':List AV}(h:g6 mem J cs cs'):Cv mem J (.agg cs) (.agg cs'):=.agg cs cs' h.1 h.2
theorem Cv.tup'{cs cs':List AV}(h:g6 mem J cs cs'):Cv mem J (.tup cs) (.tup cs'):=.tup cs cs' h.1 h.2
theorem Ji.same{x:AV}(h:NN x):Ji mem J x x:=⟨rfl,(g6.same h.cells).2⟩
theorem Ji.agg{cs cs':List AV}(h:g6 mem J cs cs'):Ji mem J (.agg cs) (.agg cs'):=h
theorem Ji.one{x y:AV}(hx:x.cells=[x])(hy:y.cells=[y])(h:Cv mem J x y):Ji mem J x y:=by
 unfold Ji;rw[hx,hy];exact g6.cons h .nil
theorem tO.same{xs:List AV}(h:jU xs):tO mem J xs xs:=
 ⟨Y8 _,λi x y h1 h2=>by rw[h1] at h2;cases h2;exact .same (h.get i x h1)⟩
theorem tO.nil{xs:List AV}:tO mem J xs []:=⟨sq,λi x y h1 h2=>by simp at h2⟩
theorem tO.cons{x y:AV}{xs ys:List AV}(h:Ji mem J x y)(hs:tO mem J xs ys):tO mem J (x::xs) (y::ys):=by
 refine⟨by simp[hs.1],λi a b h1 h2=>?_⟩;cases i with
 | zero=>simp at h1 h2;subst h1 h2;exact h
 | succ i=>simp at h1 h2;exact hs.2 i a b h1 h2
theorem tO.snoc{xs ys:List AV}{x y:AV}(hl:xs.length=ys.length)(hs:tO mem J xs ys)(h:Ji mem J x y):tO mem J (xs++[x]) (ys++[y]):=by
 refine⟨by simp[hl],λi a b h1 h2=>?_⟩;rcases ZG i xs.length with hi|hi
 .rw[ZK hi] at h1;rw[ZK om] at h2;exact hs.2 i a b h1 h2
 .rw[ZM hi] at h1;rw[ZM om,<-hl] at h2;generalize i-xs.length=q at h1 h2;cases q with
  | zero=>simp at h1 h2;subst h1 h2;exact h
  | succ q=>simp at h1
theorem tO.to{xs xs' ys:List AV}(h:tO mem J xs ys)(e:xs'=xs):tO mem J xs' ys:=by rw[e];exact h
theorem tO.eq{xs ys:List AV}(h:jU ys)(e:xs=ys):tO mem J xs ys:=by rw[e];exact .same h
theorem Cv.fz'{id off len:Nat}{t:TypeId}{sz:Nat}{xs ys:List AV}(h1:lk mem id=some (.row t sz xs))(h2:lk J id=none)(h3:off+len<=xs.length)(h4:(xs.drop off).take len=ys)(h5:jU ys):Cv mem J (.sl id off len) (.il sz ys):=by
 have hg:∀(i:Nat) (x y:AV),xs[off+i]? = some x->ys[i]? = some y->x=y:=by
  intro i x y hx hy;rw[<-h4,Za] at hy;split at hy
  .rw[ZS,hx] at hy;exact Option.some.inj hy
  .cases hy
 refine .fz id off len t sz xs ys h1 h2 h3 (by rw[<-h4];simp;omega) (λi x y hx hy=>by rw[hg i x y hx hy]) (λi x y j c c' hx hy hc hc'=>?_);rw[hg i x y hx hy] at hc;rw[hc] at hc';cases hc';exact .same c ((h5.get i y hy).cells.get j c hc)
def cO(mem:aQ)(J:List (Nat × Nat)):aQ->Prop
 | []=>True
 | (id',b)::r=>(match b with
   | .row t sz ys=>∃id xs,lk J id=some id'/\lk mem id=some (.row t sz xs)/\tO mem J xs ys
   | .mapb es'=>∃id es,lk J id=some id'/\lk mem id=some (.mapb es)/\Xc mem J es es'
   | .loop sl' nt ps ca cb st pd=>∃id sl,lk J id=some id'/\lk mem id=some (.loop sl nt ps ca cb st pd)/\X5 mem J sl sl'
   | .iter1 _ _=>False)/\cO mem J r
theorem cO.cvm:∀{mem':aQ},cO mem J mem'->Qb mem J mem'
 | [],h=>λp hp=>by cases hp
 | (id',b)::r,h=>λp hp=>by
  rcases Y6.1 hp with rfl|hp
  .have h1:=h.1;cases b with
   | row t sz ys=>
    obtain⟨id,xs,e1,e2,e3⟩:=h1;exact .inl ⟨id,t,sz,xs,ys,rfl,e1,e2,e3⟩
   | mapb es'=>
    obtain⟨id,es,e1,e2,e3⟩:=h1;exact .inr (.inl ⟨id,es,es',rfl,e1,e2,e3⟩)
   | loop sl' nt ps ca cb st pd=>
    obtain⟨id,sl,e1,e2,e3⟩:=h1;exact .inr (.inr ⟨id,sl,sl',nt,ps,ca,cb,st,pd,rfl,e1,e2,e3⟩)
   | iter1 _ _=>exact False.elim h1
  .exact cO.cvm h.2 p hp
def FD(n:Nat):List (Nat × Nat)->Bool
 | []=>true
 | (_,m)::r=>!Nat.beq m n && FD n r
def kV:List (Nat × Nat)->Bool
 | []=>true
 | (_,m)::r=>FD m r && kV r
def BG(n:Nat):aQ->Bool
 | []=>true
 | (m,_)::r=>!Nat.beq m n && BG n r
def kG:aQ->Bool
 | []=>true
 | (m,_)::r=>BG m r && kG r
def Af(B n:Nat):List (Nat × Nat)->Bool
 | []=>true
 | (i,j)::r=>((Nat.ble B j || Nat.beq i j) && Nat.blt j n) && Af B n r
theorem qK:∀{n:Nat} {J:List (Nat × Nat)},FD n J=true->∀p∈J,p.2≠n
 | n,[],h,p,hp=>by cases hp
 | n,(i,m)::r,h,p,hp=>by
  simp only[FD,Y1] at h;rcases Y6.1 hp with rfl|hp
  .intro e;simp only at e;subst e;simp at h
  .exact qK h.2 p hp
theorem I8:∀{J:List (Nat × Nat)},kV J=true->∀p∈J,∀q∈J,p.2=q.2->p=q
 | [],h,p,hp=>by cases hp
 | (i,m)::r,h,p,hp=>by
  simp only[kV,Y1] at h;intro q hq e;rcases Y6.1 hp with rfl|hp<;>rcases Y6.1 hq with rfl|hq
  .rfl
  .exact absurd e.symm (qK h.1 q hq)
  .exact absurd e (qK h.1 p hp)
  .exact I8 h.2 p hp q hq e
theorem mI{J:List (Nat × Nat)}(h:kV J=true):Jv J:=λi j k h1 h2=>by
 have:=I8 h _ (bL h1) _ (bL h2) rfl;exact congrArg Prod.fst this
theorem zR:∀{n:Nat} {m:aQ},BG n m=true->n∉m.map (·.1)
 | n,[],h=>sq
 | n,(k,b)::r,h=>by
  simp only[BG,Y1] at h;simp only[Z2,Y6,not_or];refine⟨?_,zR h.2⟩;intro e;subst e;simp at h
theorem eI:∀{m:aQ},kG m=true->(m.map (·.1)).Nodup
 | [],h=>sq
 | (k,b)::r,h=>by
  simp only[kG,Y1] at h;simp only[Z2,Zv];exact⟨zR h.1,eI h.2⟩
theorem Bd{B n:Nat}:∀{J:List (Nat × Nat)},Af B n J=true->∀id id',lk J id=some id'->(id'<B->id'=id)/\id'<n:=by
 intro J h id id' hl;have hmem:=bL hl;clear hl
 induction J with
 | nil=>cases hmem
 | cons p r ih=>
  obtain⟨i,j⟩:=p;simp only[Af,Y1,Z0] at h;rcases Y6.1 hmem with e|hmem
  .cases e;refine⟨λhb=>?_,Y5 h.1.2⟩;rcases h.1.1 with h1|h1
   .have a2:=Y5 h1;omega
   .exact(Nat.eq_of_beq_eq_true h1).symm
  .exact ih h.2 hmem
theorem aK{B:Nat}{sl sl':List (Nat × AV)}{mem':aQ}{nx nx' nt:Nat}(J:List (Nat × Nat))(hc:(kV J && (kG mem' && (Af B nx' J && Nat.ble B nx')))=true)(hm:cO mem J mem')(h:BS mem J sl sl') :
  Conv B J ⟨sl,mem,nx,nt⟩ ⟨sl',mem',nx',nt⟩:=by
 simp only[Y1] at hc;exact⟨rfl,λi v' hi=>h.get i v' hi,hm.cvm,eI hc.2.1,mI hc.1,Bd hc.2.2.1,Y5 hc.2.2.2⟩
theorem bM{B:Nat}{Q:AV->aQ->Nat->Prop}{r r':AV}{m':aQ}{n n':Nat}(J:List (Nat × Nat))(hc:(kV J && (kG m' && (Af B n' J && Nat.ble B n')))=true)(hm:cO mem J m')(hr:Cv mem J r r')(hq:Q r' m' n'):kH B Q r mem n:=by
 simp only[Y1] at hc;exact .mk J r' m' n' ⟨hr,hm.cvm,eI hc.2.1,mI hc.1,Bd hc.2.2.1,Y5 hc.2.2.2⟩ hq
end
theorem uK:∀{m:aQ} {id:Nat} {p:Nat × AB},p∈m->p.1≠id->p∈drop id m
 | (k,u)::r,id,p,hp,hne=>by
  simp only[drop];rcases Y6.1 hp with rfl|hp
  .rw[tH hne];exact ZQ ..
  .split
   .exact hp
   .exact ZE _ (uK hp hne)
theorem aJ.use1{P:Program}{C:List (Nat × AV)}{F:FuncId}{as args:List AV}{mem:aQ}{nx:Nat}{t:TypeId}{sz:Nat}{xs:List AV}{Qs K:AV->aQ->Nat->Prop}(hΓ:∀p∈C,NN p.2)
  (h:aJ P C F as [(0,.row t sz xs)] 1 Qs) (g:Nat) (hg:lk mem g=some (.row t sz xs)) (hx:jU xs) (hargs:g6 [(g,.row t sz xs)] [(g,0)] args as)
  (hk:∀r m n,Qs r m n->∃xs',m=[(0,.row t sz xs')]/\NN r/\jU xs'/\CY g mem λrest=>K r ((g,.row t sz xs')::rest) nx):aJ P C F args mem nx K:=by
 refine⟨λX D E w vs hD hm hv=>?_⟩;refine(aJ.use (K:=K) (nx:=nx) hΓ h [(g,0)] (m1:=[(g,.row t sz xs)]) (rest:=drop g mem) ⟨λp hp=>?_,λp hp=>dT hp,λp hp=>?_,λp hp q hq=>?_,sq⟩ (kS hm.nod) hargs (λp hp=>?_) sq (mI (by rfl)) (λid i hl=>?_) ?_).run X D E w vs hD hm hv
 .simp at hp;subst hp;exact bL hg
 .by_cases hpg:p.1=g
  .left;have:=sF hm.nod hp (bL hg) hpg;rw[this];simp
  .exact .inr (uK hp hpg)
 .simp at hp;subst hp;exact Ne.symm (sD hm.nod hq)
 .simp at hp;subst hp;exact .inl ⟨g,t,sz,xs,xs,rfl,by simp[lk],by simp[lk],.same hx⟩
 .have:=bL hl;simp at this;omega
 .intro r m n hq hn;obtain⟨xs',rfl,h1,h2,h3⟩:=hk r m n hq;refine⟨[(0,g)],r,[(g,.row t sz xs')],nx,Y8 _,.same r h1,λp hp=>?_,sq,mI (by rfl),λi id hl=>?_,λp hp q hq=>?_,wY.1 h3⟩
  .simp at hp;subst hp;exact .inl ⟨0,t,sz,xs',xs',rfl,by simp[lk],by simp[lk],.same h2⟩
  .have:=bL hl;simp at this;obtain⟨rfl,rfl⟩:=this;exact .inl ⟨om,by simp[lk]⟩
  .simp at hp;subst hp;exact Ne.symm (sD hm.nod hq)
mutual
def bY:bD->AV
 | .mk k n s kids=>.agg [.int .i64 k,.int .i64 n,.str s,.il 4 (aR kids)]
def aR:List bD->List AV
 | []=>[]
 | v::r=>bY v::aR r
end
theorem f9:∀l:List bD,aR l=l.map bY
 | []=>by simp[aR]
 | v::r=>by simp[aR,f9 r]
mutual
theorem bT:∀v:bD,NN (bY v)
 | .mk k n s kids=>by
  simp only[bY];exact .agg' (.cons (.int _ _) (.cons (.int _ _) (.cons (.str _) (.cons (.il' (aW kids)) .nil))))
theorem aW:∀l:List bD,jU (aR l)
 | []=>by simp only[aR];exact .nil
 | v::r=>by simp only[aR];exact .cons (bT v) (aW r)
end
def i64(n:Int):Prop:=-9223372036854775808<=n/\n<=9223372036854775807
mutual
def iG:bD->Prop
 | .mk k n s kids=>i64 k/\i64 n/\s.length<=4294967296/\kids.length<=4294967296/\yI kids
def yI:List bD->Prop
 | []=>True
 | v::r=>iG v/\yI r
end
theorem pW:∀{l:List bD},yI l->∀v∈l,iG v
 | [],_,v,h=>by cases h
 | a::r,h,v,hv=>by
  simp only[yI] at h;rcases Y6.1 hv with rfl|hv
  .exact h.1
  .exact pW h.2 v hv
theorem tF:∀{l:List bD},(∀v∈l,iG v)->yI l
 | [],_=>by simp[yI]
 | a::r,h=>by simp only[yI];exact⟨h a (ZQ ..),tF λv hv=>h v (ZE _ hv)⟩
theorem bS{n:Int}(h:i64 n):IntKind.i64.wrap n=n:=IntWalk.i64_in n h
def aV(l:List Int):List AV:=l.map (AV.int .i64)
theorem aT(l:List Int):jU (aV l):=λa ha=>by
 obtain⟨n,_,rfl⟩:=ZL.1 ha;exact .int _ _
theorem bK(l:List Int)(i:Nat):(aV l)[i]? = (l[i]?).map (AV.int .i64):=by rw[aV,ZT]
theorem aH(l:List Int):(aV l).length=l.length:=by rw[aV,aAs]
theorem i6(l:List bD)(i:Nat):(aR l)[i]? = (l[i]?).map bY:=by rw[f9,ZT]
theorem aB(l:List bD):(aR l).length=l.length:=by rw[f9,aAs]
end Go.Ax
namespace Go.Ax
open Go
theorem AF:∀(x y:List UInt8),Op.bytesLess x y=decide (kE x y<0)
 | [],[]=>rfl
 | [],_::_=>rfl
 | _::_,[]=>rfl
 | a::x,b::y=>by
  simp only[Op.bytesLess,kE,AF x y];by_cases h:a<b
  .simp[h]
  .by_cases h':b<a
   .have hne:¬a=b:=by rintro rfl;exact h h'
    simp[h,h',hne]
   .have he:a=b:=by
     rw[<-UInt8.toNat_inj];simp only[UInt8.lt_iff_toNat_lt] at h h';omega
    subst he;simp[h]
theorem s7:∀(x y:List UInt8),kE x y = -1\/kE x y=0\/kE x y=1
 | [],[]=>by simp[kE]
 | [],_::_=>by simp[kE]
 | _::_,[]=>by simp[kE]
 | a::x,b::y=>by
  simp only[kE];split
  .simp
  .split
   .simp
   .exact s7 x y
theorem o0:∀{x y:List UInt8},kE x y=0->x=y
 | [],[],_=>rfl
 | [],_::_,h=>by simp[kE] at h
 | _::_,[],h=>by simp[kE] at h
 | a::x,b::y,h=>by
  simp only[kE] at h;split at h
  .cases h
  .split at h
   .cases h
   .rename_i h1 h2;have he:a=b:=by
     rw[<-UInt8.toNat_inj];simp only[UInt8.lt_iff_toNat_lt] at h1 h2;omega
    rw[he,o0 h]
theorem FT{x y:List UInt8}:Op.bytesLess x y=true↔kE x y = -1:=by
 rw[AF];have:=s7 x y;simp;omega
theorem NP{x y:List UInt8}(h:Op.bytesLess x y=false)(h':(!(Op.bytesLess x y || x == y))=true):kE x y=1:=by
 rw[h] at h';simp at h';rw[AF] at h;simp at h;have:=s7 x y;rcases this with e|e|e
 .omega
 .exact absurd (o0 e) h'
 .exact e
theorem Mw{x y:List UInt8}(h:Op.bytesLess x y=false)(h':(!(Op.bytesLess x y || x == y))=false):kE x y=0:=by
 rw[h] at h';simp at h';subst h';exact(rH x).refl
section
variable {ka na:Int} {sa:List UInt8} {ksa:List bD} {kb nb:Int} {sb:List UInt8} {ksb:List bD}
theorem F5{a b:Int}(h:a≠b):q7 a b=if a<b then -1 else 1:=by
 unfold q7;split
 .rfl
 .rw[Y4 om]
theorem wJ{a b:Int}(h:a≠b):q7 a b≠0:=by
 rw[F5 h];split<;>decide
theorem Mr(h:ka≠kb):cN (.mk ka na sa ksa) (.mk kb nb sb ksb)=if ka<kb then -1 else 1:=by
 rw[cN,andThen,Yz (wJ h),F5 h]
theorem QF(h:ka=kb)(h2:na≠nb):cN (.mk ka na sa ksa) (.mk kb nb sb ksb)=if na<nb then -1 else 1:=by
 rw[cN,andThen,Y4 (by rw[h];exact(lN kb).refl),andThen,Yz (wJ h2),F5 h2]
theorem UV(h:ka=kb)(h2:na=nb)(h3:sa≠sb):cN (.mk ka na sa ksa) (.mk kb nb sb ksb)=if Op.bytesLess sa sb=true then -1 else 1:=by
 rw[cN,andThen,Y4 (by rw[h];exact(lN kb).refl),andThen,Y4 (by rw[h2];exact(lN nb).refl),andThen,Yz (λe=>h3 (o0 e))];rcases s7 sa sb with e|e|e
 .rw[Y4 (FT.2 e),e]
 .exact absurd (o0 e) h3
 .have:¬Op.bytesLess sa sb=true:=by rw[AF,e];simp
  rw[Yz this,e]
theorem UC(h:ka=kb)(h2:na=nb)(h3:sa=sb):cN (.mk ka na sa ksa) (.mk kb nb sb ksb)=gJ ksa ksb:=by
 rw[cN,andThen,Y4 (by rw[h];exact(lN kb).refl),andThen,Y4 (by rw[h2];exact(lN nb).refl),andThen,Y4 (by rw[h3];exact(rH sb).refl)]
end
theorem FU{l1 l2:List bD}{k:Nat}(h1:k<l1.length)(h2:k<l2.length):gJ (l1.drop k) (l2.drop k)=andThen (cN l1[k] l2[k]) (gJ (l1.drop (k+1)) (l2.drop (k+1))):=by
 rw[List.drop_eq_getElem_cons h1,List.drop_eq_getElem_cons h2,gJ]
theorem uW{l:List bD}{k:Nat}(h:k<l.length):(aR l)[(k:Int).toNat]? = some (bY l[k]):=by
 rw[Yy,i6,Yw h];rfl
end Go.Ax
namespace Go.Ax
open Go
def cE:List bD->bD->Nat × Bool
 | [],_=>(0,false)
 | a::r,v=>if 0<=cN a v then(0,cN a v == 0) else((cE r v).1+1,(cE r v).2)
def EM(l:List bD)(k:Nat)(v:bD):Bool:=
 match l[k]? with
 | some a=>cN a v == 0
 | none=>false
theorem rE:∀{l:List bD} {v:bD} {k:Nat},k<=l.length->(∀p a,p<k->l[p]? = some a->cN a v<0)->(∀a,l[k]? = some a->0<=cN a v)->cE l v=(k,EM l k v)
 | [],v,k,hk,h1,h2=>by
  have:k=0:=su hk
  subst this;simp[cE,EM]
 | a::r,v,0,hk,h1,h2=>by
  have:=h2 a sq;simp[cE,this,EM]
 | a::r,v,k+1,hk,h1,h2=>by
  have h0:=h1 0 a om sq;have ih:=rE (l:=r) (v:=v) (k:=k) (su hk) (λp b hp hb=>h1 (p+1) b om (su hb)) (λb hb=>h2 b (su hb));rw[cE,Yz om,ih];simp[EM]
theorem rQ:∀(l:List bD) (v:bD),(cE l v).1<=l.length
 | [],v=>by simp[cE]
 | a::r,v=>by
  simp only[cE];split
  .simp
  .have:=rQ r v;simp;omega
def vE(out:List bD)(v:bD):List bD:=if (cE out v).2 then out else out.take (cE out v).1++v::out.drop (cE out v).1
def fC(l:List bD):List bD:=l.foldl vE []
theorem o8(l:List bD)(v:bD):fC (l++[v])=vE (fC l) v:=by simp[fC]
theorem HU{out:List bD}{v x:bD}(h:x∈vE out v):x=v\/x∈out:=by
 unfold vE at h;split at h
 .exact .inr h
 .rcases ZI.1 h with h|h
  .exact .inr (Zg h)
  .rcases Y6.1 h with h|h
   .exact .inl h
   .exact .inr (Zr h)
theorem JO(out:List bD)(v:bD):(vE out v).length<=out.length+1:=by
 unfold vE;split
 .omega
 .simp only[ZA,Zc,ZO,aAG];have:=rQ out v;omega
theorem tL:∀l:List bD,(fC l).length<=l.length:=by
 intro l;rw[<-List.reverse_reverse l];generalize l.reverse=r
 induction r with
 | nil=>simp[fC]
 | cons a r ih=>
  rw[aBD,o8];have:=JO (fC r.reverse) a;simp only[ZA,ZZ];omega
theorem rR{l:List bD}{x:bD}:x∈fC l->x∈l:=by
 rw[<-List.reverse_reverse l];generalize l.reverse=r
 induction r with
 | nil=>simp[fC]
 | cons a r ih=>
  rw[aBD,o8];intro h;rcases HU h with rfl|h
  .simp
  .exact Zf _ (ih h)
theorem Io{a b c:bD}(h1:cN a b<0)(h2:cN b c<=0):cN a c<0:=by
 have g:=jY a;have t:=g.trans b c om h2;rcases aBy t with h|h
 .exact h
 .have:=(g.strict b c om h2 h).1;omega
theorem WZ{a b c:bD}(h1:cN a b<=0)(h2:cN b c<0):cN a c<0:=by
 have g:=jY a;have t:=g.trans b c h1 om;rcases aBy t with h|h
 .exact h
 .have:=(g.strict b c h1 om h).2;omega
theorem La{a b:bD}(h:0<cN a b):cN b a<0:=by rw[(jY a).anti b];omega
def lK(l:List bD):Prop:=l.Pairwise λa b=>cN a b<0
theorem Eo(a:bD)(r:List bD)(v:bD):vE (a::r) v=if 0<=cN a v then(if cN a v == 0 then a::r else v::a::r) else a::vE r v:=by
 unfold vE;by_cases h:0<=cN a v
 .simp only[cE,Y4 h];rfl
 .simp only[cE,Yz h];split<;>simp_all
theorem IE:∀{l:List bD} {v:bD},lK l->lK (vE l v)
 | [],v,_=>by simp[vE,cE,lK]
 | a::r,v,h=>by
  unfold lK at h |-;rw[Zn] at h;rw[Eo];split
  .rename_i h0;split
   .exact Zn.2 h
   .rename_i h1;have h1:cN a v≠0:=su h1
    have hva:=La (show 0<cN a v by omega);refine Zn.2 ⟨λb hb=>?_,Zn.2 h⟩;rcases Y6.1 hb with rfl|hb
    .exact hva
    .exact Io hva (by have:=h.1 b hb;omega)
  .rename_i h0;refine Zn.2 ⟨λb hb=>?_,IE (l:=r) h.2⟩;rcases HU hb with rfl|hb
   .omega
   .exact h.1 b hb
theorem wN:∀l:List bD,lK (fC l):=by
 intro l;rw[<-List.reverse_reverse l];generalize l.reverse=r
 induction r with
 | nil=>simp[fC,lK]
 | cons a r ih=>rw[aBD,o8];exact IE ih
theorem lK.get{l:List bD}(h:lK l){i j:Nat}{a b:bD}(hij:i<j)(ha:l[i]? = some a)(hb:l[j]? = some b):cN a b<0:=by
 obtain⟨hi,rfl⟩:=Y0.1 ha;obtain⟨hj,rfl⟩:=Y0.1 hb;exact aBs.1 h i j hi hj hij
def Ag:bD->Int
 | .mk k _ _ _=>k
def HA:bD->Int
 | .mk _ n _ _=>n
def Oj(ln vn hn:Int):Bool:=decide (IntKind.u64.wrap (IntKind.u64.wrap vn-IntKind.u64.wrap ln)<=IntKind.u64.wrap (IntKind.u64.wrap hn-IntKind.u64.wrap vn))
def kJ(l:List bD)(v:bD):Nat × Bool:=
 if (cE l v).2 then((cE l v).1,true)
 else if (cE l v).1=0 then(0,false)
 else match l[(cE l v).1-1]?,l[(cE l v).1]? with
  | some a,some b=>if Ag a=0/\Ag v=0/\Ag b=0/\Oj (HA a) (HA v) (HA b)=true then((cE l v).1-1,false) else((cE l v).1,false)
  | _,_=>((cE l v).1-1,false)
end Go.Ax
