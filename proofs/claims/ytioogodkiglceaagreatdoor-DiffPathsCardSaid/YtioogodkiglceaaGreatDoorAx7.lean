/- A part of the proof. -/
import Derived.Test.YtioogodkiglceaaGreatDoorAx6
import Derived.IntWalk
set_option linter.unusedVariables false
set_option linter.unusedSimpArgs false
set_option linter.unusedSectionVars false
namespace Go.Ax
open Go
def jZ(l:List AV):Prop:=∀a∈l,NN a
theorem jZ.get{l:List AV}(h:jZ l)(j:Nat)(c:AV)(hc:l[j]? = some c):NN c:=h c (Ve hc)
theorem jZ.nil:jZ []:=fun a h=>by cases h
theorem jZ.cons{a:AV}{l:List AV}(h:NN a)(hl:jZ l):jZ (a::l):=fun b hb=>by
 rcases Vg.1 hb with rfl|hb
 ·exact h
 ·exact hl b hb
theorem NN.agg'{cs:List AV}(h:jZ cs):NN (.agg cs):=.agg cs h.get
theorem NN.tup'{cs:List AV}(h:jZ cs):NN (.tup cs):=.tup cs h.get
theorem NN.cells{v:AV}(h:NN v):jZ v.cells:=by
 cases v with
 | agg cs=>cases h with|agg _ hn=>intro a ha;obtain⟨j,hj⟩:=V2 ha;exact hn j a hj
 | _=>intro a ha;simp[AV.cells] at ha;subst ha;exact h
theorem NN.il'{sz:Nat}{xs:List AV}(h:jZ xs):NN (.il sz xs):=.il sz xs fun i x j c hi hj=>(h.get i x hi).cells.get j c hj
theorem NN.ip'{v:AV}(h:NN v):NN (.ip v):=.ip v fun j c hj=>h.cells.get j c hj
def bB(P:Program)(Γ:List (Nat × AV))(F:FuncId)(args:List AV)(r:AV):Prop:=aH P Γ F args [] 0 fun r' m n=>r'=r/\m=[]/\n=0
section
variable {P:Program} {Γ:List (Nat × AV)} {F:FuncId} {args:List AV} {r:AV} {mem:aP} {nx:Nat} {K:AV->aP->Nat->Prop}
theorem CU{mem:aP}{σ:List (Nat × Nat)}(ha:jZ args):kU mem σ args args:=
 ⟨rfl,fun j c c' h1 h2=>by rw[h1] at h2;cases h2;exact .same c (ha.get j c h1)⟩
theorem aH.call0{Qs:AV->aP->Nat->Prop}(hΓ:∀p∈Γ,NN p.2)(h:aH P Γ F args [] 0 Qs)(ha:jZ args)
  (hk:∀r m n,Qs r m n->∃r',Cv m [] r r'/\K r' mem nx):aH P Γ F args mem nx K:=by
 refine⟨fun X D ρ w vs hD hm hv=>?_⟩;refine(aH.use (K:=K) (nx:=nx) hΓ h [] (m1:=[]) (rest:=mem) ⟨(fun p hp=>by cases hp),fun p hp=>hp,fun p hp=>.inr hp,(fun p hp=>by cases hp),by simp⟩ hm.nod (CU ha) (fun p hp=>by cases hp) (by simp) (fun i j k h=>by simp[lk] at h) (fun id i h=>by simp[lk] at h) ?_).run X D ρ w vs hD hm hv;intro r m n hq _;obtain⟨r',h1,h2⟩:=hk r m n hq;exact⟨[],r',[],nx,Vh _,h1,(fun p hp=>by cases hp),by simp,(fun i j k h=>by simp[lk] at h),(fun i id h=>by simp[lk] at h),(fun p hp=>by cases hp),h2⟩
theorem bB.use(h:bB P Γ F args r)(hΓ:∀p∈Γ,NN p.2)(ha:jZ args)(hr:NN r)(hk:K r mem nx):aH P Γ F args mem nx K:=
 aH.call0 hΓ h ha fun r' m n ⟨e1,e2,e3⟩=>⟨r,by rw[e1];exact .same r hr,hk⟩
theorem bB.lend{as:List AV}(h:bB P Γ F as r)(hΓ:∀p∈Γ,NN p.2)(ha:kU mem [] args as)(hr:Sc r)(hk:K r mem nx):aH P Γ F args mem nx K:=
 aH.lend hΓ h ha fun r' m n ⟨e1,e2,e3⟩=>⟨by rw[e1];exact hr,by rw[e1];exact hk⟩
theorem bB.drop{as:List AV}(h:bB P Γ F as r)(hΓ:∀p∈Γ,NN p.2)(ha:kU mem [] args as)(hr:NN r)(hk:K r [] nx):aH P Γ F args mem nx K:=by
 refine⟨fun X D ρ w vs hD hm hv=>?_⟩;refine(aH.use (K:=K) (nx:=nx) hΓ h [] (m1:=mem) (rest:=[]) ⟨fun p hp=>hp,(fun p hp=>by cases hp),fun p hp=>.inl hp,(fun p _ q hq=>by cases hq),hm.nod⟩ (by simp) ha (fun p hp=>by cases hp) (by simp) (fun i j k h=>by simp[lk] at h) (fun id i h=>by simp[lk] at h) ?_).run X D ρ w vs hD hm hv;rintro r' m n ⟨rfl,rfl,rfl⟩ _;exact⟨[],r',[],nx,Vh _,.same r' hr,(fun p hp=>by cases hp),by simp,(fun i j k h=>by simp[lk] at h),(fun i id h=>by simp[lk] at h),(fun p hp=>by cases hp),hk⟩
theorem bB.useC{as:List AV}(h:bB P Γ F as r)(hΓ:∀p∈Γ,NN p.2)(ha:kU [] [] args as)(hr:NN r)(hk:K r mem nx):aH P Γ F args mem nx K:=by
 refine⟨fun X D ρ w vs hD hm hv=>?_⟩;refine(aH.use (K:=K) (nx:=nx) hΓ h [] (m1:=[]) (rest:=mem) ⟨(fun p hp=>by cases hp),fun p hp=>hp,fun p hp=>.inr hp,(fun p hp=>by cases hp),by simp⟩ hm.nod ha (fun p hp=>by cases hp) (by simp) (fun i j k h=>by simp[lk] at h) (fun id i h=>by simp[lk] at h) ?_).run X D ρ w vs hD hm hv;rintro r' m n ⟨rfl,rfl,rfl⟩ _;exact⟨[],r',[],nx,Vh _,.same r' hr,(fun p hp=>by cases hp),by simp,(fun i j k h=>by simp[lk] at h),(fun i id h=>by simp[lk] at h),(fun p hp=>by cases hp),hk⟩
theorem aA{Q:AV->aP->Nat->Prop}{m:aP}{n:Nat}(hr:NN r)(hq:Q r [] 0):kN 0 Q r m n:=
 ⟨[],r,[],0,⟨.same r hr,(fun p hp=>by cases hp),by simp,(fun i j k h=>by simp[lk] at h),(fun id i h=>by simp[lk] at h),Vh _⟩,hq⟩
theorem dK{Q:AV->aP->Nat->Prop}{m:aP}{n:Nat}{r':AV}(hr:Cv m [] r r')(hq:Q r' [] 0):kN 0 Q r m n:=
 ⟨[],r',[],0,⟨hr,(fun p hp=>by cases hp),by simp,(fun i j k h=>by simp[lk] at h),(fun id i h=>by simp[lk] at h),Vh _⟩,hq⟩
theorem bG:∀p∈([]:List (Nat × AV)),NN p.2:=fun p hp=>by cases hp
end
inductive HY {α:Type} (B:Nat) (R:α->Prop) (I:α->St) (μ:α->Nat) (x:α) (s:St):Prop
 | mk (y:α) (σ:List (Nat × Nat)):R y->Conv B σ s (I y)->μ y<μ x->HY B R I μ x s
theorem eD.loopAt{P:Program}{Γ:List (Nat × AV)}{B:Nat}{c:Code}{s:St}{Q:Exit->St->Prop}{α:Type}(hΓ:∀p∈Γ,NN p.2)(R:α->Prop)(I:α->St)(μ:α->Nat)(x:α)(σ:List (Nat × Nat))(hx:R x)(h0:Conv B σ s (I x))
  (h:∀x,R x->AE false P Γ (En P Γ B) c (I x) fun e s=>match e with
   | .normal=>HY B R I μ x s
   | e=>Q e s):eD P Γ B (.loop c) s Q:=by
 refine eD.conv hΓ h0 ?_;refine eD.loop (α:={ x:α // R x }) hΓ (fun x=>I x.1) (fun x=>μ x.1) (fun x=>?_) ⟨x,hx⟩;refine(eH rT c _ _ (h x.1 x.2)).mono fun e s h=>?_
 cases e with
 | normal=>
  obtain⟨y,σ,hy,hc,hlt⟩:=(show HY B R I μ x.1 s from h)
  exact⟨⟨y,hy⟩,σ,hc,hlt⟩
 | exit i=>exact h
 | goto l=>exact h
 | ret=>exact h
 | panic c=>exact h
 | outgrown=>exact h
theorem Ij{l h m n:Nat}(h1:l<=h)(h2:h<=m)(h3:m<=n):(Nat.ble l h && (Nat.ble h m && Nat.ble m n))=true:=by
 rw[Vc h1,Vc h2,Vc h3];rfl
theorem J4{a n m:Nat}(h:n<=m):(Nat.beq a a && Nat.ble n m)=true:=by
 rw[Vc h];simp
theorem bV{e sz size bytes len n k:Nat}(h1:Nat.beq sz size=true)(hb:Nat.ble bytes 4096=true)(h2:len=n)(h3:len+k<=34359738368) :
  (Nat.beq e e && (Nat.beq sz size && (Nat.beq len n && (Nat.ble ((len+k)*bytes) 140737488355328 && Nat.ble (len+k) 9223372036854775807))))=true:=by
 have hb:=Vd hb;have hm:(len+k)*bytes<=34359738368*4096:=Wk h3 hb;rw[h1,h2,Vc (by rw[h2] at hm;omega),Vc om];simp
theorem Bq{bytes k:Nat}(hb:Nat.ble bytes 4096=true)(h3:k<=34359738368):(Nat.ble (k*bytes) 140737488355328 && Nat.ble k 9223372036854775807)=true:=by
 have hb:=Vd hb;have hm:k*bytes<=34359738368*4096:=Wk h3 hb;rw[Vc om,Vc om];rfl
def AU(mem:aP)(σ:List (Nat × Nat))(sl:List (Nat × AV)):List (Nat × AV)->Prop
 | []=>True
 | (i,v')::r=>(∃v,lk sl i=some v/\Cv mem σ v v')/\AU mem σ sl r
theorem AU.get{mem:aP}{σ:List (Nat × Nat)}{sl:List (Nat × AV)}:∀{sl':List (Nat × AV)},AU mem σ sl sl'->∀i v',lk sl' i=some v'->∃v,lk sl i=some v/\Cv mem σ v v'
 | [],h,i,v',hi=>by simp[lk] at hi
 | (j,u)::r,h,i,v',hi=>by
  simp only[lk] at hi;split at hi
  ·rename_i e;cases hi;rw[←Nat.eq_of_beq_eq_true e];exact h.1
  ·exact AU.get h.2 i v' hi
theorem bX{B:Nat}{sl sl':List (Nat × AV)}{mem:aP}{nx nt:Nat}(h:AU mem [] sl sl'):Conv B [] ⟨sl,mem,nx,nt⟩ ⟨sl',[],B,nt⟩:=
 ⟨rfl,fun i v' hi=>h.get i v' hi,(fun p hp=>by cases hp),by simp,(fun i j k h=>by simp[lk] at h),(fun id i h=>by simp[lk] at h),Vh _⟩
theorem Cv.eq{mem:aP}{σ:List (Nat × Nat)}{v v':AV}(hn:NN v')(h:v=v'):Cv mem σ v v':=by rw[h];exact .same v' hn
theorem Cv.slE{mem:aP}{σ:List (Nat × Nat)}{id id' off len len':Nat}(h:lk σ id=some id')(e:len=len'):Cv mem σ (.sl id off len) (.sl id' off len'):=by rw[←e];exact .sl id id' off len h
section
variable {mem:aP} {σ:List (Nat × Nat)}
theorem kU.nil:kU mem σ [] []:=⟨rfl,fun j c c' h=>by simp at h⟩
theorem kU.cons{a b:AV}{as bs:List AV}(h:Cv mem σ a b)(hs:kU mem σ as bs):kU mem σ (a::as) (b::bs):=by
 refine⟨by simp[hs.1],fun j c c' h1 h2=>?_⟩;cases j with
 | zero=>simp at h1 h2;subst h1 h2;exact h
 | succ j=>simp at h1 h2;exact hs.2 j c c' h1 h2
theorem kU.same{l:List AV}(h:jZ l):kU mem σ l l:=CU h
theorem Cv.agg'{cs cs':List AV}(h:kU mem σ cs cs'):Cv mem σ (.agg cs) (.agg cs'):=.agg cs cs' h.1 h.2
theorem Cv.tup'{cs cs':List AV}(h:kU mem σ cs cs'):Cv mem σ (.tup cs) (.tup cs'):=.tup cs cs' h.1 h.2
theorem I1.same{x:AV}(h:NN x):I1 mem σ x x:=⟨rfl,(kU.same h.cells).2⟩
theorem I1.agg{cs cs':List AV}(h:kU mem σ cs cs'):I1 mem σ (.agg cs) (.agg cs'):=h
theorem I1.one{x y:AV}(hx:x.cells=[x])(hy:y.cells=[y])(h:Cv mem σ x y):I1 mem σ x y:=by
 unfold I1;rw[hx,hy];exact kU.cons h .nil
theorem tE.same{xs:List AV}(h:jZ xs):tE mem σ xs xs:=
 ⟨Vh _,fun i x y h1 h2=>by rw[h1] at h2;cases h2;exact .same (h.get i x h1)⟩
theorem tE.nil{xs:List AV}:tE mem σ xs []:=⟨by simp,fun i x y h1 h2=>by simp at h2⟩
theorem tE.cons{x y:AV}{xs ys:List AV}(h:I1 mem σ x y)(hs:tE mem σ xs ys):tE mem σ (x::xs) (y::ys):=by
 refine⟨by simp[hs.1],fun i a b h1 h2=>?_⟩;cases i with
 | zero=>simp at h1 h2;subst h1 h2;exact h
 | succ i=>simp at h1 h2;exact hs.2 i a b h1 h2
theorem tE.snoc{xs ys:List AV}{x y:AV}(hl:xs.length=ys.length)(hs:tE mem σ xs ys)(h:I1 mem σ x y):tE mem σ (xs++[x]) (ys++[y]):=by
 refine⟨by simp[hl],fun i a b h1 h2=>?_⟩;rcases Vm i xs.length with hi|hi
 ·rw[Vp hi] at h1;rw[Vp om] at h2;exact hs.2 i a b h1 h2
 ·rw[Vx hi] at h1;rw[Vx om,←hl] at h2;generalize i-xs.length=q at h1 h2;cases q with
  | zero=>simp at h1 h2;subst h1 h2;exact h
  | succ q=>simp at h1
theorem tE.to{xs xs' ys:List AV}(h:tE mem σ xs ys)(e:xs'=xs):tE mem σ xs' ys:=by rw[e];exact h
theorem tE.eq{xs ys:List AV}(h:jZ ys)(e:xs=ys):tE mem σ xs ys:=by rw[e];exact .same h
theorem Cv.fz'{id off len:Nat}{t:TypeId}{sz:Nat}{xs ys:List AV}(h1:lk mem id=some (.row t sz xs))(h2:lk σ id=none)(h3:off+len<=xs.length)(h4:(xs.drop off).take len=ys)(h5:jZ ys):Cv mem σ (.sl id off len) (.il sz ys):=by
 have hg:∀(i:Nat) (x y:AV),xs[off+i]? = some x->ys[i]? = some y->x=y:=by
  intro i x y hx hy;rw[←h4,WA] at hy;split at hy
  ·rw[V9,hx] at hy;exact Option.some.inj hy
  ·cases hy
 refine .fz id off len t sz xs ys h1 h2 h3 (by rw[←h4];simp;omega) (fun i x y hx hy=>by rw[hg i x y hx hy]) (fun i x y j c c' hx hy hc hc'=>?_);rw[hg i x y hx hy] at hc;rw[hc] at hc';cases hc';exact .same c ((h5.get i y hy).cells.get j c hc)
def cN(mem:aP)(σ:List (Nat × Nat)):aP->Prop
 | []=>True
 | (id',b)::r=>(match b with
   | .row t sz ys=>∃id xs,lk σ id=some id'/\lk mem id=some (.row t sz xs)/\tE mem σ xs ys
   | .mapb es'=>∃id es,lk σ id=some id'/\lk mem id=some (.mapb es)/\Tk mem σ es es'
   | .loop sl' nt ps ca cb st pd=>∃id sl,lk σ id=some id'/\lk mem id=some (.loop sl nt ps ca cb st pd)/\Ui mem σ sl sl')/\cN mem σ r
theorem cN.cvm:∀{mem':aP},cN mem σ mem'->M6 mem σ mem'
 | [],h=>fun p hp=>by cases hp
 | (id',b)::r,h=>fun p hp=>by
  rcases Vg.1 hp with rfl|hp
  ·have h1:=h.1;cases b with
   | row t sz ys=>
    obtain⟨id,xs,e1,e2,e3⟩:=h1;exact .inl ⟨id,t,sz,xs,ys,rfl,e1,e2,e3⟩
   | mapb es'=>
    obtain⟨id,es,e1,e2,e3⟩:=h1;exact .inr (.inl ⟨id,es,es',rfl,e1,e2,e3⟩)
   | loop sl' nt ps ca cb st pd=>
    obtain⟨id,sl,e1,e2,e3⟩:=h1;exact .inr (.inr ⟨id,sl,sl',nt,ps,ca,cb,st,pd,rfl,e1,e2,e3⟩)
  ·exact cN.cvm h.2 p hp
def Ce(n:Nat):List (Nat × Nat)->Bool
 | []=>true
 | (_,m)::r=>!Nat.beq m n && Ce n r
def kD:List (Nat × Nat)->Bool
 | []=>true
 | (_,m)::r=>Ce m r && kD r
def x9(n:Nat):aP->Bool
 | []=>true
 | (m,_)::r=>!Nat.beq m n && x9 n r
def jX:aP->Bool
 | []=>true
 | (m,_)::r=>x9 m r && jX r
def yO(B n:Nat):List (Nat × Nat)->Bool
 | []=>true
 | (i,j)::r=>((Nat.ble B j || Nat.beq i j) && Nat.blt j n) && yO B n r
theorem qC:∀{n:Nat} {σ:List (Nat × Nat)},Ce n σ=true->∀p∈σ,p.2≠n
 | n,[],h,p,hp=>by cases hp
 | n,(i,m)::r,h,p,hp=>by
  simp only[Ce,VZ] at h;rcases Vg.1 hp with rfl|hp
  ·intro e;simp only at e;subst e;simp at h
  ·exact qC h.2 p hp
theorem Hz:∀{σ:List (Nat × Nat)},kD σ=true->∀p∈σ,∀q∈σ,p.2=q.2->p=q
 | [],h,p,hp=>by cases hp
 | (i,m)::r,h,p,hp=>by
  simp only[kD,VZ] at h;intro q hq e;rcases Vg.1 hp with rfl|hp<;>rcases Vg.1 hq with rfl|hq
  ·rfl
  ·exact absurd e.symm (qC h.1 q hq)
  ·exact absurd e (qC h.1 p hp)
  ·exact Hz h.2 p hp q hq e
theorem lX{σ:List (Nat × Nat)}(h:kD σ=true):JI σ:=fun i j k h1 h2=>by
 have:=Hz h _ (bI h1) _ (bI h2) rfl;exact congrArg Prod.fst this
theorem yW:∀{n:Nat} {m:aP},x9 n m=true->n∉m.map (·.1)
 | n,[],h=>by simp
 | n,(k,b)::r,h=>by
  simp only[x9,VZ] at h;simp only[WK,Vg,not_or];refine⟨?_,yW h.2⟩;intro e;subst e;simp at h
theorem d7:∀{m:aP},jX m=true->(m.map (·.1)).Nodup
 | [],h=>by simp
 | (k,b)::r,h=>by
  simp only[jX,VZ] at h;simp only[WK,WI];exact⟨yW h.1,d7 h.2⟩
theorem A3{B n:Nat}:∀{σ:List (Nat × Nat)},yO B n σ=true->∀id id',lk σ id=some id'->(id'<B->id'=id)/\id'<n:=by
 intro σ h id id' hl;have hmem:=bI hl;clear hl
 induction σ with
 | nil=>cases hmem
 | cons p r ih=>
  obtain⟨i,j⟩:=p;simp only[yO,VZ,WN] at h;rcases Vg.1 hmem with e|hmem
  ·cases e;refine⟨fun hb=>?_,Vd h.1.2⟩;rcases h.1.1 with h1|h1
   ·have a2:=Vd h1;omega
   ·exact(Nat.eq_of_beq_eq_true h1).symm
  ·exact ih h.2 hmem
theorem aG{B:Nat}{sl sl':List (Nat × AV)}{mem':aP}{nx nx' nt:Nat}(σ:List (Nat × Nat))(hc:(kD σ && (jX mem' && (yO B nx' σ && Nat.ble B nx')))=true)(hm:cN mem σ mem')(h:AU mem σ sl sl') :
  Conv B σ ⟨sl,mem,nx,nt⟩ ⟨sl',mem',nx',nt⟩:=by
 simp only[VZ] at hc;exact⟨rfl,fun i v' hi=>h.get i v' hi,hm.cvm,d7 hc.2.1,lX hc.1,A3 hc.2.2.1,Vd hc.2.2.2⟩
theorem bJ{B:Nat}{Q:AV->aP->Nat->Prop}{r r':AV}{m':aP}{n n':Nat}(σ:List (Nat × Nat))(hc:(kD σ && (jX m' && (yO B n' σ && Nat.ble B n')))=true)(hm:cN mem σ m')(hr:Cv mem σ r r')(hq:Q r' m' n'):kN B Q r mem n:=by
 simp only[VZ] at hc;exact .mk σ r' m' n' ⟨hr,hm.cvm,d7 hc.2.1,lX hc.1,A3 hc.2.2.1,Vd hc.2.2.2⟩ hq
end
theorem vF:∀{m:aP} {id:Nat} {p:Nat × AB},p∈m->p.1≠id->p∈drop id m
 | (k,u)::r,id,p,hp,hne=>by
  simp only[drop];rcases Vg.1 hp with rfl|hp
  ·rw[nJ hne];exact Vu ..
  ·split
   ·exact hp
   ·exact Vn _ (vF hp hne)
theorem aH.use1{P:Program}{Γ:List (Nat × AV)}{F:FuncId}{as args:List AV}{mem:aP}{nx:Nat}{t:TypeId}{sz:Nat}{xs:List AV}{Qs K:AV->aP->Nat->Prop}(hΓ:∀p∈Γ,NN p.2)
  (h:aH P Γ F as [(0,.row t sz xs)] 1 Qs) (g:Nat) (hg:lk mem g=some (.row t sz xs)) (hx:jZ xs) (hargs:kU [(g,.row t sz xs)] [(g,0)] args as)
  (hk:∀r m n,Qs r m n->∃xs',m=[(0,.row t sz xs')]/\NN r/\jZ xs'/\Dl g mem fun rest=>K r ((g,.row t sz xs')::rest) nx):aH P Γ F args mem nx K:=by
 refine⟨fun X D ρ w vs hD hm hv=>?_⟩;refine(aH.use (K:=K) (nx:=nx) hΓ h [(g,0)] (m1:=[(g,.row t sz xs)]) (rest:=drop g mem) ⟨fun p hp=>?_,fun p hp=>dI hp,fun p hp=>?_,fun p hp q hq=>?_,by simp⟩ (kS hm.nod) hargs (fun p hp=>?_) (by simp) (lX (by rfl)) (fun id i hl=>?_) ?_).run X D ρ w vs hD hm hv
 ·simp at hp;subst hp;exact bI hg
 ·by_cases hpg:p.1=g
  ·left;have:=rF hm.nod hp (bI hg) hpg;rw[this];simp
  ·exact .inr (vF hp hpg)
 ·simp at hp;subst hp;exact Ne.symm (rL hm.nod hq)
 ·simp at hp;subst hp;exact .inl ⟨g,t,sz,xs,xs,rfl,by simp[lk],by simp[lk],.same hx⟩
 ·have:=bI hl;simp at this;omega
 ·intro r m n hq hn;obtain⟨xs',rfl,h1,h2,h3⟩:=hk r m n hq;refine⟨[(0,g)],r,[(g,.row t sz xs')],nx,Vh _,.same r h1,fun p hp=>?_,by simp,lX (by rfl),fun i id hl=>?_,fun p hp q hq=>?_,vV.1 h3⟩
  ·simp at hp;subst hp;exact .inl ⟨0,t,sz,xs',xs',rfl,by simp[lk],by simp[lk],.same h2⟩
  ·have:=bI hl;simp at this;obtain⟨rfl,rfl⟩:=this;exact .inl ⟨om,by simp[lk]⟩
  ·simp at hp;subst hp;exact Ne.symm (rL hm.nod hq)
mutual
def bS:a6->AV
 | .mk k n s kids=>.agg [.int .i64 k,.int .i64 n,.str s,.il 4 (aQ kids)]
def aQ:List a6->List AV
 | []=>[]
 | v::r=>bS v::aQ r
end
theorem fX:∀l:List a6,aQ l=l.map bS
 | []=>by simp[aQ]
 | v::r=>by simp[aQ,fX r]
mutual
theorem bN:∀v:a6,NN (bS v)
 | .mk k n s kids=>by
  simp only[bS];exact .agg' (.cons (.int _ _) (.cons (.int _ _) (.cons (.str _) (.cons (.il' (aO kids)) .nil))))
theorem aO:∀l:List a6,jZ (aQ l)
 | []=>by simp only[aQ];exact .nil
 | v::r=>by simp only[aQ];exact .cons (bN v) (aO r)
end
def i64(n:Int):Prop:=-9223372036854775808<=n/\n<=9223372036854775807
mutual
def gH:a6->Prop
 | .mk k n s kids=>i64 k/\i64 n/\s.length<=4294967296/\kids.length<=4294967296/\oH kids
def oH:List a6->Prop
 | []=>True
 | v::r=>gH v/\oH r
end
theorem i8:∀{l:List a6},oH l->∀v∈l,gH v
 | [],_,v,h=>by cases h
 | a::r,h,v,hv=>by
  simp only[oH] at h;rcases Vg.1 hv with rfl|hv
  ·exact h.1
  ·exact i8 h.2 v hv
theorem p5:∀{l:List a6},(∀v∈l,gH v)->oH l
 | [],_=>by simp[oH]
 | a::r,h=>by simp only[oH];exact⟨h a (Vu ..),p5 fun v hv=>h v (Vn _ hv)⟩
theorem cV{n:Int}(h:i64 n):IntKind.i64.wrap n=n:=IntWalk.i64_in n h
def aS(l:List Int):List AV:=l.map (AV.int .i64)
theorem aM(l:List Int):jZ (aS l):=fun a ha=>by
 obtain⟨n,_,rfl⟩:=Vq.1 ha;exact .int _ _
theorem a8(l:List Int)(i:Nat):(aS l)[i]? = (l[i]?).map (AV.int .i64):=by rw[aS,Vy]
theorem aC(l:List Int):(aS l).length=l.length:=by rw[aS,We]
theorem iT(l:List a6)(i:Nat):(aQ l)[i]? = (l[i]?).map bS:=by rw[fX,Vy]
theorem aB(l:List a6):(aQ l).length=l.length:=by rw[fX,We]
end Go.Ax
namespace Go.Ax
open Go
theorem zB:∀(x y:List UInt8),Op.bytesLess x y=decide (kG x y<0)
 | [],[]=>rfl
 | [],_::_=>rfl
 | _::_,[]=>rfl
 | a::x,b::y=>by
  simp only[Op.bytesLess,kG,zB x y];by_cases h:a<b
  ·simp[h]
  ·by_cases h':b<a
   ·have hne:¬a=b:=by rintro rfl;exact h h'
    simp[h,h',hne]
   ·have he:a=b:=by
     rw[←UInt8.toNat_inj];simp only[UInt8.lt_iff_toNat_lt] at h h';omega
    subst he;simp[h]
theorem sV:∀(x y:List UInt8),kG x y = -1∨kG x y=0∨kG x y=1
 | [],[]=>by simp[kG]
 | [],_::_=>by simp[kG]
 | _::_,[]=>by simp[kG]
 | a::x,b::y=>by
  simp only[kG];split
  ·simp
  ·split
   ·simp
   ·exact sV x y
theorem oT:∀{x y:List UInt8},kG x y=0->x=y
 | [],[],_=>rfl
 | [],_::_,h=>by simp[kG] at h
 | _::_,[],h=>by simp[kG] at h
 | a::x,b::y,h=>by
  simp only[kG] at h;split at h
  ·cases h
  ·split at h
   ·cases h
   ·rename_i h1 h2;have he:a=b:=by
     rw[←UInt8.toNat_inj];simp only[UInt8.lt_iff_toNat_lt] at h1 h2;omega
    rw[he,oT h]
theorem Fa{x y:List UInt8}:Op.bytesLess x y=true↔kG x y = -1:=by
 rw[zB];have:=sV x y;simp;omega
theorem MP{x y:List UInt8}(h:Op.bytesLess x y=false)(h':(!(Op.bytesLess x y || x == y))=true):kG x y=1:=by
 rw[h] at h';simp at h';rw[zB] at h;simp at h;have:=sV x y;rcases this with e|e|e
 ·omega
 ·exact absurd (oT e) h'
 ·exact e
theorem Ld{x y:List UInt8}(h:Op.bytesLess x y=false)(h':(!(Op.bytesLess x y || x == y))=false):kG x y=0:=by
 rw[h] at h';simp at h';subst h';exact(qQ x).refl
section
variable {ka na:Int} {sa:List UInt8} {ksa:List a6} {kb nb:Int} {sb:List UInt8} {ksb:List a6}
theorem GA{a b:Int}(h:a≠b):tD a b=if a<b then -1 else 1:=by
 unfold tD;split
 ·rfl
 ·rw[Vb om]
theorem vT{a b:Int}(h:a≠b):tD a b≠0:=by
 rw[GA h];split<;>decide
theorem Lu(h:ka≠kb):cE (.mk ka na sa ksa) (.mk kb nb sb ksb)=if ka<kb then -1 else 1:=by
 rw[cE,andThen,VY (vT h),GA h]
theorem N4(h:ka=kb)(h2:na≠nb):cE (.mk ka na sa ksa) (.mk kb nb sb ksb)=if na<nb then -1 else 1:=by
 rw[cE,andThen,Vb (by rw[h];exact(kX kb).refl),andThen,VY (vT h2),GA h2]
theorem SB(h:ka=kb)(h2:na=nb)(h3:sa≠sb):cE (.mk ka na sa ksa) (.mk kb nb sb ksb)=if Op.bytesLess sa sb=true then -1 else 1:=by
 rw[cE,andThen,Vb (by rw[h];exact(kX kb).refl),andThen,Vb (by rw[h2];exact(kX nb).refl),andThen,VY (fun e=>h3 (oT e))];rcases sV sa sb with e|e|e
 ·rw[Vb (Fa.2 e),e]
 ·exact absurd (oT e) h3
 ·have:¬Op.bytesLess sa sb=true:=by rw[zB,e];simp
  rw[VY this,e]
theorem SY(h:ka=kb)(h2:na=nb)(h3:sa=sb):cE (.mk ka na sa ksa) (.mk kb nb sb ksb)=gF ksa ksb:=by
 rw[cE,andThen,Vb (by rw[h];exact(kX kb).refl),andThen,Vb (by rw[h2];exact(kX nb).refl),andThen,Vb (by rw[h3];exact(qQ sb).refl)]
end
theorem E7{l1 l2:List a6}{k:Nat}(h1:k<l1.length)(h2:k<l2.length):gF (l1.drop k) (l2.drop k)=andThen (cE l1[k] l2[k]) (gF (l1.drop (k+1)) (l2.drop (k+1))):=by
 rw[List.drop_eq_getElem_cons h1,List.drop_eq_getElem_cons h2,gF]
theorem u5{l:List a6}{k:Nat}(h:k<l.length):(aQ l)[(k:Int).toNat]? = some (bS l[k]):=by
 rw[Va,iT,VV h];rfl
end Go.Ax
namespace Go.Ax
open Go
def cD:List a6->a6->Nat × Bool
 | [],_=>(0,false)
 | a::r,v=>if 0<=cE a v then(0,cE a v == 0) else((cD r v).1+1,(cD r v).2)
def EC(l:List a6)(k:Nat)(v:a6):Bool:=
 match l[k]? with
 | some a=>cE a v == 0
 | none=>false
theorem qS:∀{l:List a6} {v:a6} {k:Nat},k<=l.length->(∀p a,p<k->l[p]? = some a->cE a v<0)->(∀a,l[k]? = some a->0<=cE a v)->cD l v=(k,EC l k v)
 | [],v,k,hk,h1,h2=>by
  have:k=0:=by simpa using hk
  subst this;simp[cD,EC]
 | a::r,v,0,hk,h1,h2=>by
  have:=h2 a (by simp);simp[cD,this,EC]
 | a::r,v,k+1,hk,h1,h2=>by
  have h0:=h1 0 a om (by simp);have ih:=qS (l:=r) (v:=v) (k:=k) (by simpa using hk) (fun p b hp hb=>h1 (p+1) b om (by simpa using hb)) (fun b hb=>h2 b (by simpa using hb));rw[cD,VY om,ih];simp[EC]
theorem rB:∀(l:List a6) (v:a6),(cD l v).1<=l.length
 | [],v=>by simp[cD]
 | a::r,v=>by
  simp only[cD];split
  ·simp
  ·have:=rB r v;simp;omega
def uI(out:List a6)(v:a6):List a6:=if (cD out v).2 then out else out.take (cD out v).1++v::out.drop (cD out v).1
def eR(l:List a6):List a6:=l.foldl uI []
theorem pC(l:List a6)(v:a6):eR (l++[v])=uI (eR l) v:=by simp[eR]
theorem Hc{out:List a6}{v x:a6}(h:x∈uI out v):x=v∨x∈out:=by
 unfold uI at h;split at h
 ·exact .inr h
 ·rcases Vs.1 h with h|h
  ·exact .inr (WE h)
  ·rcases Vg.1 h with h|h
   ·exact .inl h
   ·exact .inr (Wa h)
theorem Hn(out:List a6)(v:a6):(uI out v).length<=out.length+1:=by
 unfold uI;split
 ·omega
 ·simp only[Vf,WB,V3,Xo];have:=rB out v;omega
theorem rJ:∀l:List a6,(eR l).length<=l.length:=by
 intro l;rw[←List.reverse_reverse l];generalize l.reverse=r
 induction r with
 | nil=>simp[eR]
 | cons a r ih=>
  rw[Xd,pC];have:=Hn (eR r.reverse) a;simp only[Vf,WC];omega
theorem rA{l:List a6}{x:a6}:x∈eR l->x∈l:=by
 rw[←List.reverse_reverse l];generalize l.reverse=r
 induction r with
 | nil=>simp[eR]
 | cons a r ih=>
  rw[Xd,pC];intro h;rcases Hc h with rfl|h
  ·simp
  ·exact V8 _ (ih h)
theorem Gx{a b c:a6}(h1:cE a b<0)(h2:cE b c<=0):cE a c<0:=by
 have g:=lL a;have t:=g.trans b c om h2;rcases Int.lt_or_eq_of_le t with h|h
 ·exact h
 ·have:=(g.strict b c om h2 h).1;omega
theorem TJ{a b c:a6}(h1:cE a b<=0)(h2:cE b c<0):cE a c<0:=by
 have g:=lL a;have t:=g.trans b c h1 om;rcases Int.lt_or_eq_of_le t with h|h
 ·exact h
 ·have:=(g.strict b c h1 om h).2;omega
theorem LG{a b:a6}(h:0<cE a b):cE b a<0:=by rw[(lL a).anti b];omega
def lN(l:List a6):Prop:=l.Pairwise fun a b=>cE a b<0
theorem EV(a:a6)(r:List a6)(v:a6):uI (a::r) v=if 0<=cE a v then(if cE a v == 0 then a::r else v::a::r) else a::uI r v:=by
 unfold uI;by_cases h:0<=cE a v
 ·simp only[cD,Vb h];rfl
 ·simp only[cD,VY h];split<;>simp_all
theorem ID:∀{l:List a6} {v:a6},lN l->lN (uI l v)
 | [],v,_=>by simp[uI,cD,lN]
 | a::r,v,h=>by
  unfold lN at h ⊢;rw[WF] at h;rw[EV];split
  ·rename_i h0;split
   ·exact WF.2 h
   ·rename_i h1;have h1:cE a v≠0:=by simpa using h1
    have hva:=LG (show 0<cE a v by omega);refine WF.2 ⟨fun b hb=>?_,WF.2 h⟩;rcases Vg.1 hb with rfl|hb
    ·exact hva
    ·exact Gx hva (by have:=h.1 b hb;omega)
  ·rename_i h0;refine WF.2 ⟨fun b hb=>?_,ID (l:=r) h.2⟩;rcases Hc hb with rfl|hb
   ·omega
   ·exact h.1 b hb
theorem v6:∀l:List a6,lN (eR l):=by
 intro l;rw[←List.reverse_reverse l];generalize l.reverse=r
 induction r with
 | nil=>simp[eR,lN]
 | cons a r ih=>rw[Xd,pC];exact ID ih
theorem lN.get{l:List a6}(h:lN l){i j:Nat}{a b:a6}(hij:i<j)(ha:l[i]? = some a)(hb:l[j]? = some b):cE a b<0:=by
 obtain⟨hi,rfl⟩:=VX.1 ha;obtain⟨hj,rfl⟩:=VX.1 hb;exact X0.1 h i j hi hj hij
def zG:a6->Int
 | .mk k _ _ _=>k
def Gf:a6->Int
 | .mk _ n _ _=>n
def Mz(ln vn hn:Int):Bool:=decide (IntKind.u64.wrap (IntKind.u64.wrap vn-IntKind.u64.wrap ln)<=IntKind.u64.wrap (IntKind.u64.wrap hn-IntKind.u64.wrap vn))
def kF(l:List a6)(v:a6):Nat × Bool:=
 if (cD l v).2 then((cD l v).1,true)
 else if (cD l v).1=0 then(0,false)
 else match l[(cD l v).1-1]?,l[(cD l v).1]? with
  | some a,some b=>if zG a=0/\zG v=0/\zG b=0/\Mz (Gf a) (Gf v) (Gf b)=true then((cD l v).1-1,false) else((cD l v).1,false)
  | _,_=>((cD l v).1-1,false)
end Go.Ax
