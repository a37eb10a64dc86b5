/- A part of the proof. -/
import Derived.Test.YthggfhnnkclooaaGreatDoorAx6
import Derived.IntWalk
set_option linter.unusedSectionVars false
set_option linter.unusedVariables false
set_option linter.unusedSimpArgs false
set_option maxRecDepth 1000000
set_option maxHeartbeats 16000000
namespace Go.Ax
open Go
def jR(l:List AV):Prop:=∀a∈l,NN a
theorem jR.get{l:List AV}(h:jR l)(j:Nat)(c:AV)(hc:l[j]? = some c):NN c:=h c (Y5 hc)
theorem jR.nil:jR []:=λa h=>by cases h
theorem jR.cons{a:AV}{l:List AV}(h:NN a)(hl:jR l):jR (a::l):=λb hb=>by
 rcases ZC.1 hb with rfl|hb
 .exact h
 .exact hl b hb
theorem NN.agg'{cs:List AV}(h:jR cs):NN (.agg cs):=.agg cs h.get
theorem NN.tup'{cs:List AV}(h:jR cs):NN (.tup cs):=.tup cs h.get
theorem NN.cells{v:AV}(h:NN v):jR v.cells:=by
 cases v with
 | agg cs=>cases h with|agg _ hn=>intro a ha;obtain⟨j,hj⟩:=Zl ha;exact hn j a hj
 | _=>intro a ha;simp[AV.cells] at ha;subst ha;exact h
theorem NN.il'{sz:Nat}{xs:List AV}(h:jR xs):NN (.il sz xs):=.il sz xs λi x j c hi hj=>(h.get i x hi).cells.get j c hj
theorem NN.ip'{v:AV}(h:NN v):NN (.ip v):=.ip v λj c hj=>h.cells.get j c hj
def aU(P:Program)(C:List (Nat × AV))(F:FuncId)(args:List AV)(r:AV):Prop:=aJ P C F args [] 0 λr' m n=>r'=r/\m=[]/\n=0
section
variable {P:Program} {C:List (Nat × AV)} {F:FuncId} {args:List AV} {r:AV} {mem:aR} {nx:Nat} {K:AV->aR->Nat->Prop}
theorem Dj{mem:aR}{J:List (Nat × Nat)}(ha:jR args):iS mem J args args:=
 ⟨rfl,λj c c' h1 h2=>by rw[h1] at h2;cases h2;exact .same c (ha.get j c h1)⟩
theorem aJ.call0{Qs:AV->aR->Nat->Prop}(hΓ:∀p∈C,NN p.2)(h:aJ P C F args [] 0 Qs)(ha:jR args)
  (hk:∀r m n,Qs r m n->∃r',Cv m [] r r'/\K r' mem nx):aJ P C F args mem nx K:=by
 refine⟨λX D E w vs hD hm hv=>?_⟩;refine(aJ.use (K:=K) (nx:=nx) hΓ h [] (m1:=[]) (rest:=mem) ⟨(λp hp=>by cases hp),λp hp=>hp,λp hp=>.inr hp,(λp hp=>by cases hp),sq⟩ hm.nod (Dj ha) (λp hp=>by cases hp) sq (λi j k h=>by simp[lk] at h) (λid i h=>by simp[lk] at h) ?_).run X D E w vs hD hm hv;intro r m n hq _;obtain⟨r',h1,h2⟩:=hk r m n hq;exact⟨[],r',[],nx,ZA _,h1,(λp hp=>by cases hp),sq,(λi j k h=>by simp[lk] at h),(λi id h=>by simp[lk] at h),(λp hp=>by cases hp),h2⟩
theorem aU.use(h:aU P C F args r)(hΓ:∀p∈C,NN p.2)(ha:jR args)(hr:NN r)(hk:K r mem nx):aJ P C F args mem nx K:=
 aJ.call0 hΓ h ha λr' m n ⟨e1,e2,e3⟩=>⟨r,by rw[e1];exact .same r hr,hk⟩
theorem aU.lend{as:List AV}(h:aU P C F as r)(hΓ:∀p∈C,NN p.2)(ha:iS mem [] args as)(hr:Sc r)(hk:K r mem nx):aJ P C F args mem nx K:=
 aJ.lend hΓ h ha λr' m n ⟨e1,e2,e3⟩=>⟨by rw[e1];exact hr,by rw[e1];exact hk⟩
theorem aU.drop{as:List AV}(h:aU P C F as r)(hΓ:∀p∈C,NN p.2)(ha:iS mem [] args as)(hr:NN r)(hk:K r [] nx):aJ P C F args mem nx K:=by
 refine⟨λX D E w vs hD hm hv=>?_⟩;refine(aJ.use (K:=K) (nx:=nx) hΓ h [] (m1:=mem) (rest:=[]) ⟨λp hp=>hp,(λp hp=>by cases hp),λp hp=>.inl hp,(λp _ q hq=>by cases hq),hm.nod⟩ sq ha (λp hp=>by cases hp) sq (λi j k h=>by simp[lk] at h) (λid i h=>by simp[lk] at h) ?_).run X D E w vs hD hm hv;rintro r' m n ⟨rfl,rfl,rfl⟩ _;exact⟨[],r',[],nx,ZA _,.same r' hr,(λp hp=>by cases hp),sq,(λi j k h=>by simp[lk] at h),(λi id h=>by simp[lk] at h),(λp hp=>by cases hp),hk⟩
theorem aU.useC{as:List AV}(h:aU P C F as r)(hΓ:∀p∈C,NN p.2)(ha:iS [] [] args as)(hr:NN r)(hk:K r mem nx):aJ P C F args mem nx K:=by
 refine⟨λX D E w vs hD hm hv=>?_⟩;refine(aJ.use (K:=K) (nx:=nx) hΓ h [] (m1:=[]) (rest:=mem) ⟨(λp hp=>by cases hp),λp hp=>hp,λp hp=>.inr hp,(λp hp=>by cases hp),sq⟩ hm.nod ha (λp hp=>by cases hp) sq (λi j k h=>by simp[lk] at h) (λid i h=>by simp[lk] at h) ?_).run X D E w vs hD hm hv;rintro r' m n ⟨rfl,rfl,rfl⟩ _;exact⟨[],r',[],nx,ZA _,.same r' hr,(λp hp=>by cases hp),sq,(λi j k h=>by simp[lk] at h),(λi id h=>by simp[lk] at h),(λp hp=>by cases hp),hk⟩
theorem aA{Q:AV->aR->Nat->Prop}{m:aR}{n:Nat}(hr:NN r)(hq:Q r [] 0):oC 0 Q r m n:=
 ⟨[],r,[],0,⟨.same r hr,(λp hp=>by cases hp),sq,(λi j k h=>by simp[lk] at h),(λid i h=>by simp[lk] at h),ZA _⟩,hq⟩
theorem cN{Q:AV->aR->Nat->Prop}{m:aR}{n:Nat}{r':AV}(hr:Cv m [] r r')(hq:Q r' [] 0):oC 0 Q r m n:=
 ⟨[],r',[],0,⟨hr,(λp hp=>by cases hp),sq,(λi j k h=>by simp[lk] at h),(λid i h=>by simp[lk] at h),ZA _⟩,hq⟩
theorem bI:∀p∈([]:List (Nat × AV)),NN p.2:=λp hp=>by cases hp
end
inductive H7 {G:Type} (B:Nat) (R:G->Prop) (ah:G->St) (μ:G->Nat) (x:G) (s:St):Prop
 | mk (y:G) (J:List (Nat × Nat)):R y->Conv B J s (ah y)->μ y<μ x->H7 B R ah μ x s
theorem eQ.loopAt{P:Program}{C:List (Nat × AV)}{B:Nat}{c:Code}{s:St}{Q:Exit->St->Prop}{G:Type}(hΓ:∀p∈C,NN p.2)(R:G->Prop)(ah:G->St)(μ:G->Nat)(x:G)(J:List (Nat × Nat))(hx:R x)(h0:Conv B J s (ah x))
  (h:∀x,R x->Ct false P C (F8 P C B) c (ah x) λe s=>match e with
   | .normal=>H7 B R ah μ x s
   | e=>Q e s):eQ P C B (.loop c) s Q:=by
 refine eQ.conv hΓ h0 ?_;refine eQ.loop (G:={ x:G // R x }) hΓ (λx=>ah x.1) (λx=>μ x.1) (λx=>?_) ⟨x,hx⟩;refine(iA vJ c _ _ (h x.1 x.2)).mono λe s h=>?_
 cases e with
 | normal=>
  obtain⟨y,J,hy,hc,hlt⟩:=(show H7 B R ah μ x.1 s from h)
  exact⟨⟨y,hy⟩,J,hc,hlt⟩
 | exit i=>exact h
 | goto l=>exact h
 | ret=>exact h
 | panic c=>exact h
 | outgrown=>exact h
theorem H6{l h m n:Nat}(h1:l<=h)(h2:h<=m)(h3:m<=n):(Nat.ble l h && (Nat.ble h m && Nat.ble m n))=true:=by
 rw[Y2 h1,Y2 h2,Y2 h3];rfl
theorem Jo{a n m:Nat}(h:n<=m):(Nat.beq a a && Nat.ble n m)=true:=by
 rw[Y2 h];simp
theorem b8{e sz size bytes len n k:Nat}(h1:Nat.beq sz size=true)(hb:Nat.ble bytes 4096=true)(h2:len=n)(h3:len+k<=34359738368) :
  (Nat.beq e e && (Nat.beq sz size && (Nat.beq len n && (Nat.ble ((len+k)*bytes) 140737488355328 && Nat.ble (len+k) 9223372036854775807))))=true:=by
 have hb:=Y9 hb;have hm:(len+k)*bytes<=34359738368*4096:=Z7 h3 hb;rw[h1,h2,Y2 (by rw[h2] at hm;omega),Y2 om];simp
theorem CX{bytes k:Nat}(hb:Nat.ble bytes 4096=true)(h3:k<=34359738368):(Nat.ble (k*bytes) 140737488355328 && Nat.ble k 9223372036854775807)=true:=by
 have hb:=Y9 hb;have hm:k*bytes<=34359738368*4096:=Z7 h3 hb;rw[Y2 om,Y2 om];rfl
def BK(mem:aR)(J:List (Nat × Nat))(sl:List (Nat × AV)):List (Nat × AV)->Prop
 | []=>True
 | (i,v')::r=>(∃v,lk sl i=some v/\Cv mem J v v')/\BK mem J sl r
theorem BK.get{mem:aR}{J:List (Nat × Nat)}{sl:List (Nat × AV)}:∀{sl':List (Nat × AV)},BK mem J sl sl'->∀i v',lk sl' i=some v'->∃v,lk sl i=some v/\Cv mem J v v'
 | [],h,i,v',hi=>by simp[lk] at hi
 | (j,u)::r,h,i,v',hi=>by
  simp only[lk] at hi;split at hi
  .rename_i e;cases hi;rw[<-Nat.eq_of_beq_eq_true e];exact h.1
  .exact BK.get h.2 i v' hi
theorem b9{B:Nat}{sl sl':List (Nat × AV)}{mem:aR}{nx nt:Nat}(h:BK mem [] sl sl'):Conv B [] ⟨sl,mem,nx,nt⟩ ⟨sl',[],B,nt⟩:=
 ⟨rfl,λi v' hi=>h.get i v' hi,(λp hp=>by cases hp),sq,(λi j k h=>by simp[lk] at h),(λid i h=>by simp[lk] at h),ZA _⟩
theorem Cv.eq{mem:aR}{J:List (Nat × Nat)}{v v':AV}(hn:NN v')(h:v=v'):Cv mem J v v':=by rw[h];exact .same v' hn
theorem Cv.slE{mem:aR}{J:List (Nat × Nat)}{id id' off len len':Nat}(h:lk J id=some id')(e:len=len'):Cv mem J (.sl id off len) (.sl id' off len'):=by rw[<-e];exact .sl id id' off len h
section
variable {mem:aR} {J:List (Nat × Nat)}
theorem iS.nil:iS mem J [] []:=⟨rfl,λj c c' h=>by simp at h⟩
theorem iS.cons{a b:AV}{as bs:List AV}(h:Cv mem J a b)(hs:iS mem J as bs):iS mem J (a::as) (b::bs):=by
 refine⟨by simp[hs.1],λj c c' h1 h2=>?_⟩;cases j with
 | zero=>simp at h1 h2;subst h1 h2;exact h
 | succ j=>simp at h1 h2;exact hs.2 j c c' h1 h2
theorem iS.same{l:List AV}(h:jR l):iS mem J l l:=Dj h
theorem Cv.agg'{cs cs':List AV}(h:iS mem J cs cs'):Cv mem J (.agg cs) (.agg cs'):=.agg cs cs' h.1 h.2
theorem Cv.tup'{cs cs':List AV}(h:iS mem J cs cs'):Cv mem J (.tup cs) (.tup cs'):=.tup cs cs' h.1 h.2
theorem Jh.same{x:AV}(h:NN x):Jh mem J x x:=⟨rfl,(iS.same h.cells).2⟩
theorem Jh.agg{cs cs':List AV}(h:iS mem J cs cs'):Jh mem J (.agg cs) (.agg cs'):=h
theorem Jh.one{x y:AV}(hx:x.cells=[x])(hy:y.cells=[y])(h:Cv mem J x y):Jh mem J x y:=by
 unfold Jh;rw[hx,hy];exact iS.cons h .nil
theorem rY.same{xs:List AV}(h:jR xs):rY mem J xs xs:=
 ⟨ZA _,λi x y h1 h2=>by rw[h1] at h2;cases h2;exact .same (h.get i x h1)⟩
theorem rY.nil{xs:List AV}:rY mem J xs []:=⟨sq,λi x y h1 h2=>by simp at h2⟩
theorem rY.cons{x y:AV}{xs ys:List AV}(h:Jh mem J x y)(hs:rY mem J xs ys):rY mem J (x::xs) (y::ys):=by
 refine⟨by simp[hs.1],λi a b h1 h2=>?_⟩;cases i with
 | zero=>simp at h1 h2;subst h1 h2;exact h
 | succ i=>simp at h1 h2;exact hs.2 i a b h1 h2
theorem rY.snoc{xs ys:List AV}{x y:AV}(hl:xs.length=ys.length)(hs:rY mem J xs ys)(h:Jh mem J x y):rY mem J (xs++[x]) (ys++[y]):=by
 refine⟨by simp[hl],λi a b h1 h2=>?_⟩;rcases ZL i xs.length with hi|hi
 .rw[ZR hi] at h1;rw[ZR om] at h2;exact hs.2 i a b h1 h2
 .rw[ZS hi] at h1;rw[ZS om,<-hl] at h2;generalize i-xs.length=q at h1 h2;cases q with
  | zero=>simp at h1 h2;subst h1 h2;exact h
  | succ q=>simp at h1
theorem rY.to{xs xs' ys:List AV}(h:rY mem J xs ys)(e:xs'=xs):rY mem J xs' ys:=by rw[e];exact h
theorem rY.eq{xs ys:List AV}(h:jR ys)(e:xs=ys):rY mem J xs ys:=by rw[e];exact .same h
theorem Cv.fz'{id off len:Nat}{t:TypeId}{sz:Nat}{xs ys:List AV}(h1:lk mem id=some (.row t sz xs))(h2:lk J id=none)(h3:off+len<=xs.length)(h4:(xs.drop off).take len=ys)(h5:jR ys):Cv mem J (.sl id off len) (.il sz ys):=by
 have hg:∀(i:Nat) (x y:AV),xs[off+i]? = some x->ys[i]? = some y->x=y:=by
  intro i x y hx hy;rw[<-h4,Zb] at hy;split at hy
  .rw[Zd,hx] at hy;exact Option.some.inj hy
  .cases hy
 refine .fz id off len t sz xs ys h1 h2 h3 (by rw[<-h4];simp;omega) (λi x y hx hy=>by rw[hg i x y hx hy]) (λi x y j c c' hx hy hc hc'=>?_);rw[hg i x y hx hy] at hc;rw[hc] at hc';cases hc';exact .same c ((h5.get i y hy).cells.get j c hc)
def cZ(mem:aR)(J:List (Nat × Nat)):aR->Prop
 | []=>True
 | (id',b)::r=>(match b with
   | .row t sz ys=>∃id xs,lk J id=some id'/\lk mem id=some (.row t sz xs)/\rY mem J xs ys
   | .mapb es'=>∃id es,lk J id=some id'/\lk mem id=some (.mapb es)/\YA mem J es es'
   | .loop sl' nt ps ca cb st pd=>∃id sl,lk J id=some id'/\lk mem id=some (.loop sl nt ps ca cb st pd)/\YB mem J sl sl'
   | .iter1 _ _=>False)/\cZ mem J r
theorem cZ.cvm:∀{mem':aR},cZ mem J mem'->PK mem J mem'
 | [],h=>λp hp=>by cases hp
 | (id',b)::r,h=>λp hp=>by
  rcases ZC.1 hp with rfl|hp
  .have h1:=h.1;cases b with
   | row t sz ys=>
    obtain⟨id,xs,e1,e2,e3⟩:=h1;exact .inl ⟨id,t,sz,xs,ys,rfl,e1,e2,e3⟩
   | mapb es'=>
    obtain⟨id,es,e1,e2,e3⟩:=h1;exact .inr (.inl ⟨id,es,es',rfl,e1,e2,e3⟩)
   | loop sl' nt ps ca cb st pd=>
    obtain⟨id,sl,e1,e2,e3⟩:=h1;exact .inr (.inr ⟨id,sl,sl',nt,ps,ca,cb,st,pd,rfl,e1,e2,e3⟩)
   | iter1 _ _=>exact False.elim h1
  .exact cZ.cvm h.2 p hp
def FL(n:Nat):List (Nat × Nat)->Bool
 | []=>true
 | (_,m)::r=>!Nat.beq m n && FL n r
def lU:List (Nat × Nat)->Bool
 | []=>true
 | (_,m)::r=>FL m r && lU r
def Ba(n:Nat):aR->Bool
 | []=>true
 | (m,_)::r=>!Nat.beq m n && Ba n r
def kZ:aR->Bool
 | []=>true
 | (m,_)::r=>Ba m r && kZ r
def AX(B n:Nat):List (Nat × Nat)->Bool
 | []=>true
 | (i,j)::r=>((Nat.ble B j || Nat.beq i j) && Nat.blt j n) && AX B n r
theorem qE:∀{n:Nat} {J:List (Nat × Nat)},FL n J=true->∀p∈J,p.2≠n
 | n,[],h,p,hp=>by cases hp
 | n,(i,m)::r,h,p,hp=>by
  simp only[FL,Y6] at h;rcases ZC.1 hp with rfl|hp
  .intro e;simp only at e;subst e;simp at h
  .exact qE h.2 p hp
theorem IZ:∀{J:List (Nat × Nat)},lU J=true->∀p∈J,∀q∈J,p.2=q.2->p=q
 | [],h,p,hp=>by cases hp
 | (i,m)::r,h,p,hp=>by
  simp only[lU,Y6] at h;intro q hq e;rcases ZC.1 hp with rfl|hp<;>rcases ZC.1 hq with rfl|hq
  .rfl
  .exact absurd e.symm (qE h.1 q hq)
  .exact absurd e (qE h.1 p hp)
  .exact IZ h.2 p hp q hq e
theorem l7{J:List (Nat × Nat)}(h:lU J=true):J1 J:=λi j k h1 h2=>by
 have:=IZ h _ (bR h1) _ (bR h2) rfl;exact congrArg Prod.fst this
theorem zW:∀{n:Nat} {m:aR},Ba n m=true->n∉m.map (·.1)
 | n,[],h=>sq
 | n,(k,b)::r,h=>by
  simp only[Ba,Y6] at h;simp only[aAf,ZC,not_or];refine⟨?_,zW h.2⟩;intro e;subst e;simp at h
theorem eM:∀{m:aR},kZ m=true->(m.map (·.1)).Nodup
 | [],h=>sq
 | (k,b)::r,h=>by
  simp only[kZ,Y6] at h;simp only[aAf,Z1];exact⟨zW h.1,eM h.2⟩
theorem By{B n:Nat}:∀{J:List (Nat × Nat)},AX B n J=true->∀id id',lk J id=some id'->(id'<B->id'=id)/\id'<n:=by
 intro J h id id' hl;have hmem:=bR hl;clear hl
 induction J with
 | nil=>cases hmem
 | cons p r ih=>
  obtain⟨i,j⟩:=p;simp only[AX,Y6,aAb] at h;rcases ZC.1 hmem with e|hmem
  .cases e;refine⟨λhb=>?_,Y9 h.1.2⟩;rcases h.1.1 with h1|h1
   .have a2:=Y9 h1;omega
   .exact(Nat.eq_of_beq_eq_true h1).symm
  .exact ih h.2 hmem
theorem aH{B:Nat}{sl sl':List (Nat × AV)}{mem':aR}{nx nx' nt:Nat}(J:List (Nat × Nat))(hc:(lU J && (kZ mem' && (AX B nx' J && Nat.ble B nx')))=true)(hm:cZ mem J mem')(h:BK mem J sl sl') :
  Conv B J ⟨sl,mem,nx,nt⟩ ⟨sl',mem',nx',nt⟩:=by
 simp only[Y6] at hc;exact⟨rfl,λi v' hi=>h.get i v' hi,hm.cvm,eM hc.2.1,l7 hc.1,By hc.2.2.1,Y9 hc.2.2.2⟩
theorem bL{B:Nat}{Q:AV->aR->Nat->Prop}{r r':AV}{m':aR}{n n':Nat}(J:List (Nat × Nat))(hc:(lU J && (kZ m' && (AX B n' J && Nat.ble B n')))=true)(hm:cZ mem J m')(hr:Cv mem J r r')(hq:Q r' m' n'):oC B Q r mem n:=by
 simp only[Y6] at hc;exact .mk J r' m' n' ⟨hr,hm.cvm,eM hc.2.1,l7 hc.1,By hc.2.2.1,Y9 hc.2.2.2⟩ hq
end
theorem vR:∀{m:aR} {id:Nat} {p:Nat × AB},p∈m->p.1≠id->p∈drop id m
 | (k,u)::r,id,p,hp,hne=>by
  simp only[drop];rcases ZC.1 hp with rfl|hp
  .rw[sL hne];exact ZX ..
  .split
   .exact hp
   .exact ZN _ (vR hp hne)
theorem aJ.use1{P:Program}{C:List (Nat × AV)}{F:FuncId}{as args:List AV}{mem:aR}{nx:Nat}{t:TypeId}{sz:Nat}{xs:List AV}{Qs K:AV->aR->Nat->Prop}(hΓ:∀p∈C,NN p.2)
  (h:aJ P C F as [(0,.row t sz xs)] 1 Qs) (g:Nat) (hg:lk mem g=some (.row t sz xs)) (hx:jR xs) (hargs:iS [(g,.row t sz xs)] [(g,0)] args as)
  (hk:∀r m n,Qs r m n->∃xs',m=[(0,.row t sz xs')]/\NN r/\jR xs'/\FS g mem λrest=>K r ((g,.row t sz xs')::rest) nx):aJ P C F args mem nx K:=by
 refine⟨λX D E w vs hD hm hv=>?_⟩;refine(aJ.use (K:=K) (nx:=nx) hΓ h [(g,0)] (m1:=[(g,.row t sz xs)]) (rest:=drop g mem) ⟨λp hp=>?_,λp hp=>dR hp,λp hp=>?_,λp hp q hq=>?_,sq⟩ (lD hm.nod) hargs (λp hp=>?_) sq (l7 ef) (λid i hl=>?_) ?_).run X D E w vs hD hm hv
 .simp at hp;subst hp;exact bR hg
 .by_cases hpg:p.1=g
  .left;have:=s4 hm.nod hp (bR hg) hpg;rw[this];simp
  .exact .inr (vR hp hpg)
 .simp at hp;subst hp;exact Ne.symm (r9 hm.nod hq)
 .simp at hp;subst hp;exact .inl ⟨g,t,sz,xs,xs,rfl,by simp[lk],by simp[lk],.same hx⟩
 .have:=bR hl;simp at this;omega
 .intro r m n hq hn;obtain⟨xs',rfl,h1,h2,h3⟩:=hk r m n hq;refine⟨[(0,g)],r,[(g,.row t sz xs')],nx,ZA _,.same r h1,λp hp=>?_,sq,l7 ef,λi id hl=>?_,λp hp q hq=>?_,wT.1 h3⟩
  .simp at hp;subst hp;exact .inl ⟨0,t,sz,xs',xs',rfl,by simp[lk],by simp[lk],.same h2⟩
  .have:=bR hl;simp at this;obtain⟨rfl,rfl⟩:=this;exact .inl ⟨om,by simp[lk]⟩
  .simp at hp;subst hp;exact Ne.symm (r9 hm.nod hq)
mutual
def cC:bH->AV
 | .mk k n s kids=>.agg [.int .i64 k,.int .i64 n,.str s,.il 4 (aQ kids)]
def aQ:List bH->List AV
 | []=>[]
 | v::r=>cC v::aQ r
end
theorem gR:∀l:List bH,aQ l=l.map cC
 | []=>by simp[aQ]
 | v::r=>by simp[aQ,gR r]
mutual
theorem bZ:∀v:bH,NN (cC v)
 | .mk k n s kids=>by
  simp only[cC];exact .agg' (.cons (.int _ _) (.cons (.int _ _) (.cons (.str _) (.cons (.il' (aX kids)) .nil))))
theorem aX:∀l:List bH,jR (aQ l)
 | []=>by simp only[aQ];exact .nil
 | v::r=>by simp only[aQ];exact .cons (bZ v) (aX r)
end
def i64(n:Int):Prop:=-9223372036854775808<=n/\n<=9223372036854775807
mutual
def jG:bH->Prop
 | .mk k n s kids=>i64 k/\i64 n/\s.length<=4294967296/\kids.length<=4294967296/\zO kids
def zO:List bH->Prop
 | []=>True
 | v::r=>jG v/\zO r
end
theorem pG:∀{l:List bH},zO l->∀v∈l,jG v
 | [],_,v,h=>by cases h
 | a::r,h,v,hv=>by
  simp only[zO] at h;rcases ZC.1 hv with rfl|hv
  .exact h.1
  .exact pG h.2 v hv
theorem sB:∀{l:List bH},(∀v∈l,jG v)->zO l
 | [],_=>by simp[zO]
 | a::r,h=>by simp only[zO];exact⟨h a (ZX ..),sB λv hv=>h v (ZN _ hv)⟩
theorem bF{n:Int}(h:i64 n):IntKind.i64.wrap n=n:=IntWalk.i64_in n h
def aY(l:List Int):List AV:=l.map (AV.int .i64)
theorem aW(l:List Int):jR (aY l):=λa ha=>by
 obtain⟨n,_,rfl⟩:=ZW.1 ha;exact .int _ _
theorem bU(l:List Int)(i:Nat):(aY l)[i]? = (l[i]?).map (AV.int .i64):=by rw[aY,Zx]
theorem aN(l:List Int):(aY l).length=l.length:=by rw[aY,aAC]
theorem jH(l:List bH)(i:Nat):(aQ l)[i]? = (l[i]?).map cC:=by rw[gR,Zx]
theorem aB(l:List bH):(aQ l).length=l.length:=by rw[gR,aAC]
end Go.Ax
namespace Go.Ax
open Go
theorem Aw:∀(x y:List UInt8),Op.bytesLess x y=decide (kK x y<0)
 | [],[]=>rfl
 | [],_::_=>rfl
 | _::_,[]=>rfl
 | a::x,b::y=>by
  simp only[Op.bytesLess,kK,Aw x y];by_cases h:a<b
  .simp[h]
  .by_cases h':b<a
   .have hne:¬a=b:=by rintro rfl;exact h h'
    simp[h,h',hne]
   .have he:a=b:=by
     rw[<-UInt8.toNat_inj];simp only[UInt8.lt_iff_toNat_lt] at h h';omega
    subst he;simp[h]
theorem sD:∀(x y:List UInt8),kK x y = -1\/kK x y=0\/kK x y=1
 | [],[]=>by simp[kK]
 | [],_::_=>by simp[kK]
 | _::_,[]=>by simp[kK]
 | a::x,b::y=>by
  simp only[kK];split
  .simp
  .split
   .simp
   .exact sD x y
theorem pE:∀{x y:List UInt8},kK x y=0->x=y
 | [],[],_=>rfl
 | [],_::_,h=>by simp[kK] at h
 | _::_,[],h=>by simp[kK] at h
 | a::x,b::y,h=>by
  simp only[kK] at h;split at h
  .cases h
  .split at h
   .cases h
   .rename_i h1 h2;have he:a=b:=by
     rw[<-UInt8.toNat_inj];simp only[UInt8.lt_iff_toNat_lt] at h1 h2;omega
    rw[he,pE h]
theorem FQ{x y:List UInt8}:Op.bytesLess x y=true↔kK x y = -1:=by
 rw[Aw];have:=sD x y;simp;omega
theorem Ms{x y:List UInt8}(h:Op.bytesLess x y=false)(h':(!(Op.bytesLess x y || x == y))=true):kK x y=1:=by
 rw[h] at h';simp at h';rw[Aw] at h;simp at h;have:=sD x y;rcases this with e|e|e
 .omega
 .exact absurd (pE e) h'
 .exact e
theorem Mw{x y:List UInt8}(h:Op.bytesLess x y=false)(h':(!(Op.bytesLess x y || x == y))=false):kK x y=0:=by
 rw[h] at h';simp at h';subst h';exact(rN x).refl
section
variable {ka na:Int} {sa:List UInt8} {ksa:List bH} {kb nb:Int} {sb:List UInt8} {ksb:List bH}
theorem HB{a b:Int}(h:a≠b):rK a b=if a<b then -1 else 1:=by
 unfold rK;split
 .rfl
 .rw[Y7 om]
theorem v7{a b:Int}(h:a≠b):rK a b≠0:=by
 rw[HB h];split<;>decide
theorem NC(h:ka≠kb):c8 (.mk ka na sa ksa) (.mk kb nb sb ksb)=if ka<kb then -1 else 1:=by
 rw[c8,andThen,Y3 (v7 h),HB h]
theorem Og(h:ka=kb)(h2:na≠nb):c8 (.mk ka na sa ksa) (.mk kb nb sb ksb)=if na<nb then -1 else 1:=by
 rw[c8,andThen,Y7 (by rw[h];exact(lK kb).refl),andThen,Y3 (v7 h2),HB h2]
theorem VJ(h:ka=kb)(h2:na=nb)(h3:sa≠sb):c8 (.mk ka na sa ksa) (.mk kb nb sb ksb)=if Op.bytesLess sa sb=true then -1 else 1:=by
 rw[c8,andThen,Y7 (by rw[h];exact(lK kb).refl),andThen,Y7 (by rw[h2];exact(lK nb).refl),andThen,Y3 (λe=>h3 (pE e))];rcases sD sa sb with e|e|e
 .rw[Y7 (FQ.2 e),e]
 .exact absurd (pE e) h3
 .have:¬Op.bytesLess sa sb=true:=by rw[Aw,e];simp
  rw[Y3 this,e]
theorem Uj(h:ka=kb)(h2:na=nb)(h3:sa=sb):c8 (.mk ka na sa ksa) (.mk kb nb sb ksb)=g7 ksa ksb:=by
 rw[c8,andThen,Y7 (by rw[h];exact(lK kb).refl),andThen,Y7 (by rw[h2];exact(lK nb).refl),andThen,Y7 (by rw[h3];exact(rN sb).refl)]
end
theorem Et{l1 l2:List bH}{k:Nat}(h1:k<l1.length)(h2:k<l2.length):g7 (l1.drop k) (l2.drop k)=andThen (c8 l1[k] l2[k]) (g7 (l1.drop (k+1)) (l2.drop (k+1))):=by
 rw[List.drop_eq_getElem_cons h1,List.drop_eq_getElem_cons h2,g7]
theorem BE{l:List bH}{k:Nat}(h:k<l.length):(aQ l)[(k:Int).toNat]? = some (cC l[k]):=by
 rw[Y1,jH,Yz h];rfl
end Go.Ax
namespace Go.Ax
open Go
def eZ:List bH->bH->Nat × Bool
 | [],_=>(0,false)
 | a::r,v=>if 0<=c8 a v then(0,c8 a v == 0) else((eZ r v).1+1,(eZ r v).2)
def HT(l:List bH)(k:Nat)(v:bH):Bool:=
 match l[k]? with
 | some a=>c8 a v == 0
 | none=>false
theorem uL:∀{l:List bH} {v:bH} {k:Nat},k<=l.length->(∀p a,p<k->l[p]? = some a->c8 a v<0)->(∀a,l[k]? = some a->0<=c8 a v)->eZ l v=(k,HT l k v)
 | [],v,k,hk,h1,h2=>by
  have:k=0:=su hk
  subst this;simp[eZ,HT]
 | a::r,v,0,hk,h1,h2=>by
  have:=h2 a sq;simp[eZ,this,HT]
 | a::r,v,k+1,hk,h1,h2=>by
  have h0:=h1 0 a om sq;have ih:=uL (l:=r) (v:=v) (k:=k) (su hk) (λp b hp hb=>h1 (p+1) b om (su hb)) (λb hb=>h2 b (su hb));rw[eZ,Y3 om,ih];simp[HT]
theorem A6:∀(l:List bH) (v:bH),(eZ l v).1<=l.length
 | [],v=>by simp[eZ]
 | a::r,v=>by
  simp only[eZ];split
  .simp
  .have:=A6 r v;simp;omega
def uK(out:List bH)(v:bH):List bH:=if (eZ out v).2 then out else out.take (eZ out v).1++v::out.drop (eZ out v).1
def fR(l:List bH):List bH:=l.foldl uK []
theorem pQ(l:List bH)(v:bH):fR (l++[v])=uK (fR l) v:=by simp[fR]
theorem I0{out:List bH}{v x:bH}(h:x∈uK out v):x=v\/x∈out:=by
 unfold uK at h;split at h
 .exact .inr h
 .rcases ZO.1 h with h|h
  .exact .inr (Ze h)
  .rcases ZC.1 h with h|h
   .exact .inl h
   .exact .inr (Zn h)
theorem Hu(out:List bH)(v:bH):(uK out v).length<=out.length+1:=by
 unfold uK;split
 .omega
 .simp only[ZB,ZZ,ZQ,aAg];have:=A6 out v;omega
theorem sT:∀l:List bH,(fR l).length<=l.length:=by
 intro l;rw[<-List.reverse_reverse l];generalize l.reverse=r
 induction r with
 | nil=>simp[fR]
 | cons a r ih=>
  rw[aAY,pQ];have:=Hu (fR r.reverse) a;simp only[ZB,ZY];omega
theorem rW{l:List bH}{x:bH}:x∈fR l->x∈l:=by
 rw[<-List.reverse_reverse l];generalize l.reverse=r
 induction r with
 | nil=>simp[fR]
 | cons a r ih=>
  rw[aAY,pQ];intro h;rcases I0 h with rfl|h
  .simp
  .exact Zi _ (ih h)
theorem I1{a b c:bH}(h1:c8 a b<0)(h2:c8 b c<=0):c8 a c<0:=by
 have g:=nC a;have t:=g.trans b c om h2;rcases Int.lt_or_eq_of_le t with h|h
 .exact h
 .have:=(g.strict b c om h2 h).1;omega
theorem XT{a b c:bH}(h1:c8 a b<=0)(h2:c8 b c<0):c8 a c<0:=by
 have g:=nC a;have t:=g.trans b c h1 om;rcases Int.lt_or_eq_of_le t with h|h
 .exact h
 .have:=(g.strict b c h1 om h).2;omega
theorem Lz{a b:bH}(h:0<c8 a b):c8 b a<0:=by rw[(nC a).anti b];omega
def mS(l:List bH):Prop:=l.Pairwise λa b=>c8 a b<0
theorem FV(a:bH)(r:List bH)(v:bH):uK (a::r) v=if 0<=c8 a v then(if c8 a v == 0 then a::r else v::a::r) else a::uK r v:=by
 unfold uK;by_cases h:0<=c8 a v
 .simp only[eZ,Y7 h];rfl
 .simp only[eZ,Y3 h];split<;>simp_all
theorem IG:∀{l:List bH} {v:bH},mS l->mS (uK l v)
 | [],v,_=>by simp[uK,eZ,mS]
 | a::r,v,h=>by
  unfold mS at h |-;rw[Zw] at h;rw[FV];split
  .rename_i h0;split
   .exact Zw.2 h
   .rename_i h1;have h1:c8 a v≠0:=su h1
    have hva:=Lz (show 0<c8 a v by omega);refine Zw.2 ⟨λb hb=>?_,Zw.2 h⟩;rcases ZC.1 hb with rfl|hb
    .exact hva
    .exact I1 hva (by have:=h.1 b hb;omega)
  .rename_i h0;refine Zw.2 ⟨λb hb=>?_,IG (l:=r) h.2⟩;rcases I0 hb with rfl|hb
   .omega
   .exact h.1 b hb
theorem wL:∀l:List bH,mS (fR l):=by
 intro l;rw[<-List.reverse_reverse l];generalize l.reverse=r
 induction r with
 | nil=>simp[fR,mS]
 | cons a r ih=>rw[aAY,pQ];exact IG ih
theorem mS.get{l:List bH}(h:mS l){i j:Nat}{a b:bH}(hij:i<j)(ha:l[i]? = some a)(hb:l[j]? = some b):c8 a b<0:=by
 obtain⟨hi,rfl⟩:=Y4.1 ha;obtain⟨hj,rfl⟩:=Y4.1 hb;exact aBY.1 h i j hi hj hij
end Go.Ax
