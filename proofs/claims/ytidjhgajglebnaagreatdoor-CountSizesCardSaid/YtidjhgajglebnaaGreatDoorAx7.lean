/- A part of the proof. -/
import Derived.Test.YtidjhgajglebnaaGreatDoorAx6
import Derived.IntWalk
set_option linter.unusedVariables false
set_option linter.unusedSimpArgs false
set_option maxRecDepth 1000000
set_option maxHeartbeats 16000000
namespace Go.Ax
open Go
variable{sl:List (Nat × AV)}{n k B m sz id len off:Nat}{t:TypeId}{Q:AV->aP->Nat->Prop}{mem':aP}{v a:AV}{xs cs ys as:List AV}
def kZ(l:List AV):Prop:=∀a∈l,NN a
theorem kZ.get{l:List AV}(h:kZ l)(j:Nat)(c:AV)(hc:l[j]? = some c):NN c:=h c (aAm hc)
theorem kZ.nil:kZ []:=λa h=>by cases h
theorem kZ.cons{l:List AV}(h:NN a)(hl:kZ l):kZ (a::l):=λb hb=>by
 rcases aAj.1 hb with rfl|hb
 .exact h
 .exact hl b hb
theorem NN.agg'(h:kZ cs):NN (.agg cs):=.agg cs h.get
theorem NN.tup'(h:kZ cs):NN (.tup cs):=.tup cs h.get
theorem NN.cells(h:NN v):kZ v.cells:=by
 cases v with
 | agg cs=>cases h with|agg _ hn=>intro a ha;obtain⟨j,hj⟩:=aAU ha;exact hn j a hj
 | _=>intro a ha;simp[AV.cells] at ha;subst ha;exact h
theorem NN.il'(h:kZ xs):NN (.il sz xs):=.il sz xs λi x j c hi hj=>(h.get i x hi).cells.get j c hj
theorem NN.ip'(h:NN v):NN (.ip v):=.ip v λj c hj=>h.cells.get j c hj
def aT(P:Program)(Z:List (Nat × AV))(F:FuncId)(args:List AV)(r:AV):Prop:=aH P Z F args [] 0 λr' m n=>r'=r/\m=[]/\n=0
section
variable {P:Program} {Z:List (Nat × AV)} {F:FuncId} {args:List AV} {r:AV} {mem:aP} {nx:Nat} {K:AV->aP->Nat->Prop}
theorem Fs{mem:aP}{J:List (Nat × Nat)}(ha:kZ args):jB mem J args args:=
 ⟨rfl,λj c c' h1 h2=>by rw[h1] at h2;cases h2;exact .same c (ha.get j c h1)⟩
theorem aH.call0{Qs:AV->aP->Nat->Prop}(hΓ:∀p∈Z,NN p.2)(h:aH P Z F args [] 0 Qs)(ha:kZ args)
  (hk:∀r m n,Qs r m n->∃r',Cv m [] r r'/\K r' mem nx):aH P Z F args mem nx K:=by
 refine⟨λX D C w vs hD hm hv=>?_⟩;refine(aH.use (K:=K) (nx:=nx) hΓ h [] (m1:=[]) (rest:=mem) ⟨(λp hp=>by cases hp),λp hp=>hp,λp hp=>.inr hp,(λp hp=>by cases hp),sq⟩ hm.nod (Fs ha) (λp hp=>by cases hp) sq (λi j k h=>by simp[lk] at h) (λid i h=>by simp[lk] at h) ?_).run X D C w vs hD hm hv;intro r m n hq _;obtain⟨r',h1,h2⟩:=hk r m n hq;exact⟨[],r',[],nx,aAp _,h1,(λp hp=>by cases hp),sq,(λi j k h=>by simp[lk] at h),(λi id h=>by simp[lk] at h),(λp hp=>by cases hp),h2⟩
theorem aT.use(h:aT P Z F args r)(hΓ:∀p∈Z,NN p.2)(ha:kZ args)(hr:NN r)(hk:K r mem nx):aH P Z F args mem nx K:=
 aH.call0 hΓ h ha λr' m n ⟨e1,e2,e3⟩=>⟨r,by rw[e1];exact .same r hr,hk⟩
theorem aT.lend(h:aT P Z F as r)(hΓ:∀p∈Z,NN p.2)(ha:jB mem [] args as)(hr:Sc r)(hk:K r mem nx):aH P Z F args mem nx K:=
 aH.lend hΓ h ha λr' m n ⟨e1,e2,e3⟩=>⟨by rw[e1];exact hr,by rw[e1];exact hk⟩
theorem aT.drop(h:aT P Z F as r)(hΓ:∀p∈Z,NN p.2)(ha:jB mem [] args as)(hr:NN r)(hk:K r [] nx):aH P Z F args mem nx K:=by
 refine⟨λX D C w vs hD hm hv=>?_⟩;refine(aH.use (K:=K) (nx:=nx) hΓ h [] (m1:=mem) (rest:=[]) ⟨λp hp=>hp,(λp hp=>by cases hp),λp hp=>.inl hp,(λp _ q hq=>by cases hq),hm.nod⟩ sq ha (λp hp=>by cases hp) sq (λi j k h=>by simp[lk] at h) (λid i h=>by simp[lk] at h) ?_).run X D C w vs hD hm hv;rintro r' m n ⟨rfl,rfl,rfl⟩ _;exact⟨[],r',[],nx,aAp _,.same r' hr,(λp hp=>by cases hp),sq,(λi j k h=>by simp[lk] at h),(λi id h=>by simp[lk] at h),(λp hp=>by cases hp),hk⟩
theorem aT.useC(h:aT P Z F as r)(hΓ:∀p∈Z,NN p.2)(ha:jB [] [] args as)(hr:NN r)(hk:K r mem nx):aH P Z F args mem nx K:=by
 refine⟨λX D C w vs hD hm hv=>?_⟩;refine(aH.use (K:=K) (nx:=nx) hΓ h [] (m1:=[]) (rest:=mem) ⟨(λp hp=>by cases hp),λp hp=>hp,λp hp=>.inr hp,(λp hp=>by cases hp),sq⟩ hm.nod ha (λp hp=>by cases hp) sq (λi j k h=>by simp[lk] at h) (λid i h=>by simp[lk] at h) ?_).run X D C w vs hD hm hv;rintro r' m n ⟨rfl,rfl,rfl⟩ _;exact⟨[],r',[],nx,aAp _,.same r' hr,(λp hp=>by cases hp),sq,(λi j k h=>by simp[lk] at h),(λi id h=>by simp[lk] at h),(λp hp=>by cases hp),hk⟩
theorem aA{m:aP}(hr:NN r)(hq:Q r [] 0):rE 0 Q r m n:=
 ⟨[],r,[],0,⟨.same r hr,(λp hp=>by cases hp),sq,(λi j k h=>by simp[lk] at h),(λid i h=>by simp[lk] at h),aAp _⟩,hq⟩
theorem gM{m:aP}{r':AV}(hr:Cv m [] r r')(hq:Q r' [] 0):rE 0 Q r m n:=
 ⟨[],r',[],0,⟨hr,(λp hp=>by cases hp),sq,(λi j k h=>by simp[lk] at h),(λid i h=>by simp[lk] at h),aAp _⟩,hq⟩
theorem bE:∀p∈([]:List (Nat × AV)),NN p.2:=λp hp=>by cases hp
end
inductive Kt {V:Type} (B:Nat) (R:V->Prop) (I:V->St) (μ:V->Nat) (x:V) (s:St):Prop
 | mk (y:V) (J:List (Nat × Nat)):R y->Conv B J s (I y)->μ y<μ x->Kt B R I μ x s
theorem gC.loopAt{P:Program}{Z:List (Nat × AV)}{B:Nat}{c:Code}{s:St}{Q:Exit->St->Prop}{V:Type}(hΓ:∀p∈Z,NN p.2)(R:V->Prop)(I:V->St)(μ:V->Nat)(x:V)(J:List (Nat × Nat))(hx:R x)(h0:Conv B J s (I x))
  (h:∀x,R x->E0 false P Z (NV P Z B) c (I x) λe s=>match e with
   | .normal=>Kt B R I μ x s
   | e=>Q e s):gC P Z B (.loop c) s Q:=by
 refine gC.conv hΓ h0 ?_;refine gC.loop (V:={ x:V // R x }) hΓ (λx=>I x.1) (λx=>μ x.1) (λx=>?_) ⟨x,hx⟩;refine(iC wS c _ _ (h x.1 x.2)).mono λe s h=>?_
 cases e with
 | normal=>
  obtain⟨y,J,hy,hc,hlt⟩:=(show Kt B R I μ x.1 s from h)
  exact⟨⟨y,hy⟩,J,hc,hlt⟩
 | exit i=>exact h
 | goto l=>exact h
 | ret=>exact h
 | panic c=>exact h
 | outgrown=>exact h
theorem Kf{l h:Nat}(h1:l<=h)(h2:h<=m)(h3:m<=n):(Nat.ble l h && (Nat.ble h m && Nat.ble m n))=true:=by
 rw[aAf h1,aAf h2,aAf h3];rfl
theorem MH{a:Nat}(h:n<=m):(Nat.beq a a && Nat.ble n m)=true:=by
 rw[aAf h];simp
theorem cD{e size bytes:Nat}(h1:Nat.beq sz size=true)(hb:Nat.ble bytes 4096=true)(h2:len=n)(h3:len+k<=34359738368):
  (Nat.beq e e && (Nat.beq sz size && (Nat.beq len n && (Nat.ble ((len+k)*bytes) 140737488355328 && Nat.ble (len+k) 9223372036854775807))))=true:=by
 have hb:=aAi hb;have hm:(len+k)*bytes<=34359738368*4096:=aBn h3 hb;rw[h1,h2,aAf (by rw[h2] at hm;omega),aAf om];simp
theorem Dv{bytes:Nat}(hb:Nat.ble bytes 4096=true)(h3:k<=34359738368):(Nat.ble (k*bytes) 140737488355328 && Nat.ble k 9223372036854775807)=true:=by
 have hb:=aAi hb;have hm:k*bytes<=34359738368*4096:=aBn h3 hb;rw[aAf om,aAf om];rfl
def CR(mem:aP)(J:List (Nat × Nat))(sl:List (Nat × AV)):List (Nat × AV)->Prop
 | []=>True
 | (i,v')::r=>(∃v,lk sl i=some v/\Cv mem J v v')/\CR mem J sl r
theorem CR.get{mem:aP}{J:List (Nat × Nat)}{sl:List (Nat × AV)}:∀{sl':List (Nat × AV)},CR mem J sl sl'->∀i v',lk sl' i=some v'->∃v,lk sl i=some v/\Cv mem J v v'
 | [],h,i,v',hi=>by simp[lk] at hi
 | (j,u)::r,h,i,v',hi=>by
  simp only[lk] at hi;split at hi
  .rename_i e;cases hi;rw[<-Nat.eq_of_beq_eq_true e];exact h.1
  .exact CR.get h.2 i v' hi
theorem bX{sl':List (Nat × AV)}{mem:aP}{nx nt:Nat}(h:CR mem [] sl sl'):Conv B [] ⟨sl,mem,nx,nt⟩ ⟨sl',[],B,nt⟩:=
 ⟨rfl,λi v' hi=>h.get i v' hi,(λp hp=>by cases hp),sq,(λi j k h=>by simp[lk] at h),(λid i h=>by simp[lk] at h),aAp _⟩
theorem Cv.eq{mem:aP}{J:List (Nat × Nat)}{v':AV}(hn:NN v')(h:v=v'):Cv mem J v v':=by rw[h];exact .same v' hn
theorem Cv.slE{mem:aP}{J:List (Nat × Nat)}{id' len':Nat}(h:lk J id=some id')(e:len=len'):Cv mem J (.sl id off len) (.sl id' off len'):=by rw[<-e];exact .sl id id' off len h
section
variable {mem:aP} {J:List (Nat × Nat)}
theorem jB.nil:jB mem J [] []:=⟨rfl,λj c c' h=>by simp at h⟩
theorem jB.cons{b:AV}{bs:List AV}(h:Cv mem J a b)(hs:jB mem J as bs):jB mem J (a::as) (b::bs):=by
 refine⟨by simp[hs.1],λj c c' h1 h2=>?_⟩;cases j with
 | zero=>simp at h1 h2;subst h1 h2;exact h
 | succ j=>simp at h1 h2;exact hs.2 j c c' h1 h2
theorem jB.same{l:List AV}(h:kZ l):jB mem J l l:=Fs h
theorem Cv.agg'{cs':List AV}(h:jB mem J cs cs'):Cv mem J (.agg cs) (.agg cs'):=.agg cs cs' h.1 h.2
theorem Cv.tup'{cs':List AV}(h:jB mem J cs cs'):Cv mem J (.tup cs) (.tup cs'):=.tup cs cs' h.1 h.2
theorem CH.same{x:AV}(h:NN x):CH mem J x x:=⟨rfl,(jB.same h.cells).2⟩
theorem CH.agg{cs':List AV}(h:jB mem J cs cs'):CH mem J (.agg cs) (.agg cs'):=h
theorem CH.one{x y:AV}(hx:x.cells=[x])(hy:y.cells=[y])(h:Cv mem J x y):CH mem J x y:=by
 unfold CH;rw[hx,hy];exact jB.cons h .nil
theorem sH.same(h:kZ xs):sH mem J xs xs:=
 ⟨aAp _,λi x y h1 h2=>by rw[h1] at h2;cases h2;exact .same (h.get i x h1)⟩
theorem sH.nil:sH mem J xs []:=⟨sq,λi x y h1 h2=>by simp at h2⟩
theorem sH.cons{x y:AV}(h:CH mem J x y)(hs:sH mem J xs ys):sH mem J (x::xs) (y::ys):=by
 refine⟨by simp[hs.1],λi a b h1 h2=>?_⟩;cases i with
 | zero=>simp at h1 h2;subst h1 h2;exact h
 | succ i=>simp at h1 h2;exact hs.2 i a b h1 h2
theorem sH.snoc{x y:AV}(hl:xs.length=ys.length)(hs:sH mem J xs ys)(h:CH mem J x y):sH mem J (xs++[x]) (ys++[y]):=by
 refine⟨by simp[hl],λi a b h1 h2=>?_⟩;rcases aAr i xs.length with hi|hi
 .rw[aAM hi] at h1;rw[aAM om] at h2;exact hs.2 i a b h1 h2
 .rw[aAW hi] at h1;rw[aAW om,<-hl] at h2;generalize i-xs.length=q at h1 h2;cases q with
  | zero=>simp at h1 h2;subst h1 h2;exact h
  | succ q=>simp at h1
theorem sH.to{xs':List AV}(h:sH mem J xs ys)(e:xs'=xs):sH mem J xs' ys:=by rw[e];exact h
theorem sH.eq(h:kZ ys)(e:xs=ys):sH mem J xs ys:=by rw[e];exact .same h
theorem Cv.fz'(h1:lk mem id=some (.row t sz xs))(h2:lk J id=none)(h3:off+len<=xs.length)(h4:(xs.drop off).take len=ys)(h5:kZ ys):Cv mem J (.sl id off len) (.il sz ys):=by
 have hg:∀(i:Nat) (x y:AV),xs[off+i]? = some x->ys[i]? = some y->x=y:=by
  intro i x y hx hy;rw[<-h4,aAL] at hy;split at hy
  .rw[aAV,hx] at hy;exact Option.some.inj hy
  .cases hy
 refine .fz id off len t sz xs ys h1 h2 h3 (by rw[<-h4];simp;omega) (λi x y hx hy=>by rw[hg i x y hx hy]) (λi x y j c c' hx hy hc hc'=>?_);rw[hg i x y hx hy] at hc;rw[hc] at hc';cases hc';exact .same c ((h5.get i y hy).cells.get j c hc)
def dR(mem:aP)(J:List (Nat × Nat)):aP->Prop
 | []=>True
 | (id',b)::r=>(match b with
   | .row t sz ys=>∃id xs,lk J id=some id'/\lk mem id=some (.row t sz xs)/\sH mem J xs ys
   | .mapb es'=>∃id es,lk J id=some id'/\lk mem id=some (.mapb es)/\Y3 mem J es es'
   | .loop sl' nt ps ca cb st pd=>∃id sl,lk J id=some id'/\lk mem id=some (.loop sl nt ps ca cb st pd)/\ZZ mem J sl sl')/\dR mem J r
theorem dR.cvm:∀{mem':aP},dR mem J mem'->Wi mem J mem'
 | [],h=>λp hp=>by cases hp
 | (id',b)::r,h=>λp hp=>by
  rcases aAj.1 hp with rfl|hp
  .have h1:=h.1;cases b with
   | row t sz ys=>
    obtain⟨id,xs,e1,e2,e3⟩:=h1;exact .inl ⟨id,t,sz,xs,ys,rfl,e1,e2,e3⟩
   | mapb es'=>
    obtain⟨id,es,e1,e2,e3⟩:=h1;exact .inr (.inl ⟨id,es,es',rfl,e1,e2,e3⟩)
   | loop sl' nt ps ca cb st pd=>
    obtain⟨id,sl,e1,e2,e3⟩:=h1;exact .inr (.inr ⟨id,sl,sl',nt,ps,ca,cb,st,pd,rfl,e1,e2,e3⟩)
  .exact dR.cvm h.2 p hp
def E1(n:Nat):List (Nat × Nat)->Bool
 | []=>true
 | (_,m)::r=>!Nat.beq m n && E1 n r
def pW:List (Nat × Nat)->Bool
 | []=>true
 | (_,m)::r=>E1 m r && pW r
def AQ(n:Nat):aP->Bool
 | []=>true
 | (m,_)::r=>!Nat.beq m n && AQ n r
def pU:aP->Bool
 | []=>true
 | (m,_)::r=>AQ m r && pU r
def wE(B n:Nat):List (Nat × Nat)->Bool
 | []=>true
 | (i,j)::r=>((Nat.ble B j || Nat.beq i j) && Nat.blt j n) && wE B n r
theorem sL:∀{n:Nat} {J:List (Nat × Nat)},E1 n J=true->∀p∈J,p.2≠n
 | n,[],h,p,hp=>by cases hp
 | n,(i,m)::r,h,p,hp=>by
  simp only[E1,aAd] at h;rcases aAj.1 hp with rfl|hp
  .intro e;simp only at e;subst e;simp at h
  .exact sL h.2 p hp
theorem JD:∀{J:List (Nat × Nat)},pW J=true->∀p∈J,∀q∈J,p.2=q.2->p=q
 | [],h,p,hp=>by cases hp
 | (i,m)::r,h,p,hp=>by
  simp only[pW,aAd] at h;intro q hq e;rcases aAj.1 hp with rfl|hp<;>rcases aAj.1 hq with rfl|hq
  .rfl
  .exact absurd e.symm (sL h.1 q hq)
  .exact absurd e (sL h.1 p hp)
  .exact JD h.2 p hp q hq e
theorem rX{J:List (Nat × Nat)}(h:pW J=true):Si J:=λi j k h1 h2=>by
 have:=JD h _ (b8 h1) _ (b8 h2) rfl;exact congrArg Prod.fst this
theorem BK:∀{n:Nat} {m:aP},AQ n m=true->n∉m.map (·.1)
 | n,[],h=>sq
 | n,(k,b)::r,h=>by
  simp only[AQ,aAd] at h;simp only[aAT,aAj,not_or];refine⟨?_,BK h.2⟩;intro e;subst e;simp at h
theorem gU:∀{m:aP},pU m=true->(m.map (·.1)).Nodup
 | [],h=>sq
 | (k,b)::r,h=>by
  simp only[pU,aAd] at h;simp only[aAT,aA8];exact⟨BK h.1,gU h.2⟩
theorem DP:∀{J:List (Nat × Nat)},wE B n J=true->∀id id',lk J id=some id'->(id'<B->id'=id)/\id'<n:=by
 intro J h id id' hl;have hmem:=b8 hl;clear hl
 induction J with
 | nil=>cases hmem
 | cons p r ih=>
  obtain⟨i,j⟩:=p;simp only[wE,aAd,aBm] at h;rcases aAj.1 hmem with e|hmem
  .cases e;refine⟨λhb=>?_,aAi h.1.2⟩;rcases h.1.1 with h1|h1
   .have a2:=aAi h1;omega
   .exact(Nat.eq_of_beq_eq_true h1).symm
  .exact ih h.2 hmem
theorem aE{sl':List (Nat × AV)}{nx nx' nt:Nat}(J:List (Nat × Nat))(hc:(pW J && (pU mem' && (wE B nx' J && Nat.ble B nx')))=true)(hm:dR mem J mem')(h:CR mem J sl sl'):
  Conv B J ⟨sl,mem,nx,nt⟩ ⟨sl',mem',nx',nt⟩:=by
 simp only[aAd] at hc;exact⟨rfl,λi v' hi=>h.get i v' hi,hm.cvm,gU hc.2.1,rX hc.1,DP hc.2.2.1,aAi hc.2.2.2⟩
theorem aW{r r':AV}{m':aP}{n':Nat}(J:List (Nat × Nat))(hc:(pW J && (pU m' && (wE B n' J && Nat.ble B n')))=true)(hm:dR mem J m')(hr:Cv mem J r r')(hq:Q r' m' n'):rE B Q r mem n:=by
 simp only[aAd] at hc;exact .mk J r' m' n' ⟨hr,hm.cvm,gU hc.2.1,rX hc.1,DP hc.2.2.1,aAi hc.2.2.2⟩ hq
end
theorem wO:∀{m:aP} {id:Nat} {p:Nat × AB},p∈m->p.1≠id->p∈drop id m
 | (k,u)::r,id,p,hp,hne=>by
  simp only[drop];rcases aAj.1 hp with rfl|hp
  .rw[pI hne];exact aAv ..
  .split
   .exact hp
   .exact aAo _ (wO hp hne)
theorem aH.use1{P:Program}{Z:List (Nat × AV)}{F:FuncId}{as args:List AV}{mem:aP}{nx:Nat}{t:TypeId}{sz:Nat}{xs:List AV}{Qs K:AV->aP->Nat->Prop}(hΓ:∀p∈Z,NN p.2)
  (h:aH P Z F as [(0,.row t sz xs)] 1 Qs) (g:Nat) (hg:lk mem g=some (.row t sz xs)) (hx:kZ xs) (hargs:jB [(g,.row t sz xs)] [(g,0)] args as)
  (hk:∀r m n,Qs r m n->∃xs',m=[(0,.row t sz xs')]/\NN r/\kZ xs'/\Gi g mem λrest=>K r ((g,.row t sz xs')::rest) nx):aH P Z F args mem nx K:=by
 refine⟨λX D C w vs hD hm hv=>?_⟩;refine(aH.use (K:=K) (nx:=nx) hΓ h [(g,0)] (m1:=[(g,.row t sz xs)]) (rest:=drop g mem) ⟨λp hp=>?_,λp hp=>dQ hp,λp hp=>?_,λp hp q hq=>?_,sq⟩ (l6 hm.nod) hargs (λp hp=>?_) sq (rX (by rfl)) (λid i hl=>?_) ?_).run X D C w vs hD hm hv
 .simp at hp;subst hp;exact b8 hg
 .by_cases hpg:p.1=g
  .left;have:=vW hm.nod hp (b8 hg) hpg;rw[this];simp
  .exact .inr (wO hp hpg)
 .simp at hp;subst hp;exact Ne.symm (u9 hm.nod hq)
 .simp at hp;subst hp;exact .inl ⟨g,t,sz,xs,xs,rfl,by simp[lk],by simp[lk],.same hx⟩
 .have:=b8 hl;simp at this;omega
 .intro r m n hq hn;obtain⟨xs',rfl,h1,h2,h3⟩:=hk r m n hq;refine⟨[(0,g)],r,[(g,.row t sz xs')],nx,aAp _,.same r h1,λp hp=>?_,sq,rX (by rfl),λi id hl=>?_,λp hp q hq=>?_,y6.1 h3⟩
  .simp at hp;subst hp;exact .inl ⟨0,t,sz,xs',xs',rfl,by simp[lk],by simp[lk],.same h2⟩
  .have:=b8 hl;simp at this;obtain⟨rfl,rfl⟩:=this;exact .inl ⟨om,by simp[lk]⟩
  .simp at hp;subst hp;exact Ne.symm (u9 hm.nod hq)
mutual
def cO:aQ->AV
 | .mk k n s kids=>.agg [.int .i64 k,.int .i64 n,.str s,.il 4 (aU kids)]
def aU:List aQ->List AV
 | []=>[]
 | v::r=>cO v::aU r
end
theorem jT:∀l:List aQ,aU l=l.map cO
 | []=>by simp[aU]
 | v::r=>by simp[aU,jT r]
mutual
theorem dC:∀v:aQ,NN (cO v)
 | .mk k n s kids=>by
  simp only[cO];exact .agg' (.cons (.int _ _) (.cons (.int _ _) (.cons (.str _) (.cons (.il' (bK kids)) .nil))))
theorem bK:∀l:List aQ,kZ (aU l)
 | []=>by simp only[aU];exact .nil
 | v::r=>by simp only[aU];exact .cons (dC v) (bK r)
end
def i64(n:Int):Prop:=-9223372036854775808<=n/\n<=9223372036854775807
mutual
def iO:aQ->Prop
 | .mk k n s kids=>i64 k/\i64 n/\s.length<=4294967296/\kids.length<=4294967296/\tO kids
def tO:List aQ->Prop
 | []=>True
 | v::r=>iO v/\tO r
end
theorem jO:∀{l:List aQ},tO l->∀v∈l,iO v
 | [],_,v,h=>by cases h
 | a::r,h,v,hv=>by
  simp only[tO] at h;rcases aAj.1 hv with rfl|hv
  .exact h.1
  .exact jO h.2 v hv
theorem sV:∀{l:List aQ},(∀v∈l,iO v)->tO l
 | [],_=>by simp[tO]
 | a::r,h=>by simp only[tO];exact⟨h a (aAv ..),sV λv hv=>h v (aAo _ hv)⟩
theorem aV{n:Int}(h:i64 n):IntKind.i64.wrap n=n:=IntWalk.i64_in n h
def bL(l:List Int):List AV:=l.map (AV.int .i64)
theorem bH(l:List Int):kZ (bL l):=λa ha=>by
 obtain⟨n,_,rfl⟩:=aAE.1 ha;exact .int _ _
theorem bP(l:List Int)(i:Nat):(bL l)[i]? = (l[i]?).map (AV.int .i64):=by rw[bL,aAK]
theorem aK(l:List Int):(bL l).length=l.length:=by rw[bL,aBO]
theorem gQ(l:List aQ)(i:Nat):(aU l)[i]? = (l[i]?).map cO:=by rw[jT,aAK]
theorem aC(l:List aQ):(aU l).length=l.length:=by rw[jT,aBO]
end Go.Ax
namespace Go.Ax
open Go
theorem CG:∀(x y:List UInt8),Op.bytesLess x y=decide (lK x y<0)
 | [],[]=>rfl
 | [],_::_=>rfl
 | _::_,[]=>rfl
 | a::x,b::y=>by
  simp only[Op.bytesLess,lK,CG x y];by_cases h:a<b
  .simp[h]
  .by_cases h':b<a
   .have hne:¬a=b:=by rintro rfl;exact h h'
    simp[h,h',hne]
   .have he:a=b:=by
     rw[<-UInt8.toNat_inj];simp only[UInt8.lt_iff_toNat_lt] at h h';omega
    subst he;simp[h]
theorem uM:∀(x y:List UInt8),lK x y = -1\/lK x y=0\/lK x y=1
 | [],[]=>by simp[lK]
 | [],_::_=>by simp[lK]
 | _::_,[]=>by simp[lK]
 | a::x,b::y=>by
  simp only[lK];split
  .simp
  .split
   .simp
   .exact uM x y
theorem qY:∀{x y:List UInt8},lK x y=0->x=y
 | [],[],_=>rfl
 | [],_::_,h=>by simp[lK] at h
 | _::_,[],h=>by simp[lK] at h
 | a::x,b::y,h=>by
  simp only[lK] at h;split at h
  .cases h
  .split at h
   .cases h
   .rename_i h1 h2;have he:a=b:=by
     rw[<-UInt8.toNat_inj];simp only[UInt8.lt_iff_toNat_lt] at h1 h2;omega
    rw[he,qY h]
theorem HF{x y:List UInt8}:Op.bytesLess x y=true↔lK x y = -1:=by
 rw[CG];have:=uM x y;simp;omega
theorem OC{x y:List UInt8}(h:Op.bytesLess x y=false)(h':(!(Op.bytesLess x y || x == y))=true):lK x y=1:=by
 rw[h] at h';simp at h';rw[CG] at h;simp at h;have:=uM x y;rcases this with e|e|e
 .omega
 .exact absurd (qY e) h'
 .exact e
theorem PY{x y:List UInt8}(h:Op.bytesLess x y=false)(h':(!(Op.bytesLess x y || x == y))=false):lK x y=0:=by
 rw[h] at h';simp at h';subst h';exact(tV x).refl
section
variable {ka na:Int} {sa:List UInt8} {ksa:List aQ} {kb nb:Int} {sb:List UInt8} {ksb:List aQ}
theorem Hp{a b:Int}(h:a≠b):wG a b=if a<b then -1 else 1:=by
 unfold wG;split
 .rfl
 .rw[aAh om]
theorem yL{a b:Int}(h:a≠b):wG a b≠0:=by
 rw[Hp h];split<;>decide
theorem PS(h:ka≠kb):cJ (.mk ka na sa ksa) (.mk kb nb sb ksb)=if ka<kb then -1 else 1:=by
 rw[cJ,andThen,aAe (yL h),Hp h]
theorem Q9(h:ka=kb)(h2:na≠nb):cJ (.mk ka na sa ksa) (.mk kb nb sb ksb)=if na<nb then -1 else 1:=by
 rw[cJ,andThen,aAh (by rw[h];exact(mY kb).refl),andThen,aAe (yL h2),Hp h2]
theorem XA(h:ka=kb)(h2:na=nb)(h3:sa≠sb):cJ (.mk ka na sa ksa) (.mk kb nb sb ksb)=if Op.bytesLess sa sb=true then -1 else 1:=by
 rw[cJ,andThen,aAh (by rw[h];exact(mY kb).refl),andThen,aAh (by rw[h2];exact(mY nb).refl),andThen,aAe (λe=>h3 (qY e))];rcases uM sa sb with e|e|e
 .rw[aAh (HF.2 e),e]
 .exact absurd (qY e) h3
 .have:¬Op.bytesLess sa sb=true:=by rw[CG,e];simp
  rw[aAe this,e]
theorem Wt(h:ka=kb)(h2:na=nb)(h3:sa=sb):cJ (.mk ka na sa ksa) (.mk kb nb sb ksb)=g5 ksa ksb:=by
 rw[cJ,andThen,aAh (by rw[h];exact(mY kb).refl),andThen,aAh (by rw[h2];exact(mY nb).refl),andThen,aAh (by rw[h3];exact(tV sb).refl)]
end
theorem Hd{l1 l2:List aQ}{k:Nat}(h1:k<l1.length)(h2:k<l2.length):g5 (l1.drop k) (l2.drop k)=andThen (cJ l1[k] l2[k]) (g5 (l1.drop (k+1)) (l2.drop (k+1))):=by
 rw[List.drop_eq_getElem_cons h1,List.drop_eq_getElem_cons h2,g5]
theorem Hg{l:List aQ}{k:Nat}(h:k<l.length):(aU l)[(k:Int).toNat]? = some (cO l[k]):=by
 rw[aAc,gQ,aAa h];rfl
end Go.Ax
namespace Go.Ax
open Go
def kY:List aQ->aQ->Nat × Bool
 | [],_=>(0,false)
 | a::r,v=>if 0<=cJ a v then(0,cJ a v == 0) else((kY r v).1+1,(kY r v).2)
def J7(l:List aQ)(k:Nat)(v:aQ):Bool:=
 match l[k]? with
 | some a=>cJ a v == 0
 | none=>false
theorem F1:∀{l:List aQ} {v:aQ} {k:Nat},k<=l.length->(∀p a,p<k->l[p]? = some a->cJ a v<0)->(∀a,l[k]? = some a->0<=cJ a v)->kY l v=(k,J7 l k v)
 | [],v,k,hk,h1,h2=>by
  have:k=0:=su hk
  subst this;simp[kY,J7]
 | a::r,v,0,hk,h1,h2=>by
  have:=h2 a sq;simp[kY,this,J7]
 | a::r,v,k+1,hk,h1,h2=>by
  have h0:=h1 0 a om sq;have ih:=F1 (l:=r) (v:=v) (k:=k) (su hk) (λp b hp hb=>h1 (p+1) b om (su hb)) (λb hb=>h2 b (su hb));rw[kY,aAe om,ih];simp[J7]
theorem FJ:∀(l:List aQ) (v:aQ),(kY l v).1<=l.length
 | [],v=>by simp[kY]
 | a::r,v=>by
  simp only[kY];split
  .simp
  .have:=FJ r v;simp;omega
def zM(out:List aQ)(v:aQ):List aQ:=if (kY out v).2 then out else out.take (kY out v).1++v::out.drop (kY out v).1
def fT(l:List aQ):List aQ:=l.foldl zM []
theorem r9(l:List aQ)(v:aQ):fT (l++[v])=zM (fT l) v:=by simp[fT]
theorem JR{out:List aQ}{v x:aQ}(h:x∈zM out v):x=v\/x∈out:=by
 unfold zM at h;split at h
 .exact .inr h
 .rcases aAt.1 h with h|h
  .exact .inr (aAI h)
  .rcases aAj.1 h with h|h
   .exact .inl h
   .exact .inr (aAX h)
theorem KT(out:List aQ)(v:aQ):(zM out v).length<=out.length+1:=by
 unfold zM;split
 .omega
 .simp only[aAA,aAH,aAR,aBw];have:=FJ out v;omega
theorem uZ:∀l:List aQ,(fT l).length<=l.length:=by
 intro l;rw[<-List.reverse_reverse l];generalize l.reverse=r
 induction r with
 | nil=>simp[fT]
 | cons a r ih=>
  rw[aB1,r9];have:=KT (fT r.reverse) a;simp only[aAA,aA7];omega
theorem q6{l:List aQ}{x:aQ}:x∈fT l->x∈l:=by
 rw[<-List.reverse_reverse l];generalize l.reverse=r
 induction r with
 | nil=>simp[fT]
 | cons a r ih=>
  rw[aB1,r9];intro h;rcases JR h with rfl|h
  .simp
  .exact aAQ _ (ih h)
theorem Kr{a b c:aQ}(h1:cJ a b<0)(h2:cJ b c<=0):cJ a c<0:=by
 have g:=oU a;have t:=g.trans b c om h2;rcases Int.lt_or_eq_of_le t with h|h
 .exact h
 .have:=(g.strict b c om h2 h).1;omega
theorem NS{a b:aQ}(h:0<cJ a b):cJ b a<0:=by rw[(oU a).anti b];omega
def pZ(l:List aQ):Prop:=l.Pairwise λa b=>cJ a b<0
theorem Gy(a:aQ)(r:List aQ)(v:aQ):zM (a::r) v=if 0<=cJ a v then(if cJ a v == 0 then a::r else v::a::r) else a::zM r v:=by
 unfold zM;by_cases h:0<=cJ a v
 .simp only[kY,aAh h];rfl
 .simp only[kY,aAe h];split<;>simp_all
theorem Kv:∀{l:List aQ} {v:aQ},pZ l->pZ (zM l v)
 | [],v,_=>by simp[zM,kY,pZ]
 | a::r,v,h=>by
  unfold pZ at h |-;rw[aA1] at h;rw[Gy];split
  .rename_i h0;split
   .exact aA1.2 h
   .rename_i h1;have h1:cJ a v≠0:=su h1
    have hva:=NS (show 0<cJ a v by omega);refine aA1.2 ⟨λb hb=>?_,aA1.2 h⟩;rcases aAj.1 hb with rfl|hb
    .exact hva
    .exact Kr hva (by have:=h.1 b hb;omega)
  .rename_i h0;refine aA1.2 ⟨λb hb=>?_,Kv (l:=r) h.2⟩;rcases JR hb with rfl|hb
   .omega
   .exact h.1 b hb
theorem yV:∀l:List aQ,pZ (fT l):=by
 intro l;rw[<-List.reverse_reverse l];generalize l.reverse=r
 induction r with
 | nil=>simp[fT,pZ]
 | cons a r ih=>rw[aB1,r9];exact Kv ih
def Jb:aQ->Int
 | .mk k _ _ _=>k
def MQ:aQ->Int
 | .mk _ n _ _=>n
end Go.Ax
