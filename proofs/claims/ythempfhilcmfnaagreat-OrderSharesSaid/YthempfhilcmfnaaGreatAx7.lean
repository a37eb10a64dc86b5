/- A part of the proof. -/
import Derived.Test.YthempfhilcmfnaaGreatAx6
import Derived.IntWalk
set_option linter.unusedVariables false
set_option linter.unusedSimpArgs false
namespace Go.Ax
open Go
def g9(l:List AV):Prop:=∀a∈l,NN a
theorem g9.get{l:List AV}(h:g9 l)(j:Nat)(c:AV)(hc:l[j]? = some c):NN c:=h c (R3 hc)
theorem g9.nil:g9 []:=fun a h=>by cases h
theorem g9.cons{a:AV}{l:List AV}(h:NN a)(hl:g9 l):g9 (a::l):=fun b hb=>by
 rcases Rz.1 hb with rfl|hb
 ·exact h
 ·exact hl b hb
theorem NN.agg'{cs:List AV}(h:g9 cs):NN (.agg cs):=.agg cs h.get
theorem NN.tup'{cs:List AV}(h:g9 cs):NN (.tup cs):=.tup cs h.get
theorem NN.cells{v:AV}(h:NN v):g9 v.cells:=by
 cases v with
 | agg cs=>cases h with|agg _ hn=>intro a ha;obtain⟨j,hj⟩:=Sb ha;exact hn j a hj
 | _=>intro a ha;simp[AV.cells] at ha;subst ha;exact h
theorem NN.il'{sz:Nat}{xs:List AV}(h:g9 xs):NN (.il sz xs):=.il sz xs fun i x j c hi hj=>(h.get i x hi).cells.get j c hj
theorem NN.ip'{v:AV}(h:NN v):NN (.ip v):=.ip v fun j c hj=>h.cells.get j c hj
def a8(P:Program)(Γ:List (Nat × AV))(F:FuncId)(args:List AV)(r:AV):Prop:=aM P Γ F args [] 0 fun r' m n=>r'=r/\m=[]/\n=0
section
variable {P:Program} {Γ:List (Nat × AV)} {F:FuncId} {args:List AV} {r:AV} {mem:aS} {nx:Nat} {K:AV->aS->Nat->Prop}
theorem B4{mem:aS}{σ:List (Nat × Nat)}(ha:g9 args):iL mem σ args args:=
 ⟨rfl,fun j c c' h1 h2=>by rw[h1] at h2;cases h2;exact .same c (ha.get j c h1)⟩
theorem aM.call0{Qs:AV->aS->Nat->Prop}(hΓ:∀p∈Γ,NN p.2)(h:aM P Γ F args [] 0 Qs)(ha:g9 args)
  (hk:∀r m n,Qs r m n->∃r',Cv m [] r r'/\K r' mem nx):aM P Γ F args mem nx K:=by
 refine⟨fun X D ρ w vs hD hm hv=>?_⟩;refine(aM.use (K:=K) (nx:=nx) hΓ h [] (m1:=[]) (rest:=mem) ⟨(fun p hp=>by cases hp),fun p hp=>hp,fun p hp=>.inr hp,(fun p hp=>by cases hp),by simp⟩ hm.nod (B4 ha) (fun p hp=>by cases hp) (by simp) (fun i j k h=>by simp[lk] at h) (fun id i h=>by simp[lk] at h) ?_).run X D ρ w vs hD hm hv;intro r m n hq _;obtain⟨r',h1,h2⟩:=hk r m n hq;exact⟨[],r',[],nx,R2 _,h1,(fun p hp=>by cases hp),by simp,(fun i j k h=>by simp[lk] at h),(fun i id h=>by simp[lk] at h),(fun p hp=>by cases hp),h2⟩
theorem a8.use(h:a8 P Γ F args r)(hΓ:∀p∈Γ,NN p.2)(ha:g9 args)(hr:NN r)(hk:K r mem nx):aM P Γ F args mem nx K:=
 aM.call0 hΓ h ha fun r' m n ⟨e1,e2,e3⟩=>⟨r,by rw[e1];exact .same r hr,hk⟩
theorem a8.lend{as:List AV}(h:a8 P Γ F as r)(hΓ:∀p∈Γ,NN p.2)(ha:iL mem [] args as)(hr:Sc r)(hk:K r mem nx):aM P Γ F args mem nx K:=
 aM.lend hΓ h ha fun r' m n ⟨e1,e2,e3⟩=>⟨by rw[e1];exact hr,by rw[e1];exact hk⟩
theorem a8.drop{as:List AV}(h:a8 P Γ F as r)(hΓ:∀p∈Γ,NN p.2)(ha:iL mem [] args as)(hr:NN r)(hk:K r [] nx):aM P Γ F args mem nx K:=by
 refine⟨fun X D ρ w vs hD hm hv=>?_⟩;refine(aM.use (K:=K) (nx:=nx) hΓ h [] (m1:=mem) (rest:=[]) ⟨fun p hp=>hp,(fun p hp=>by cases hp),fun p hp=>.inl hp,(fun p _ q hq=>by cases hq),hm.nod⟩ (by simp) ha (fun p hp=>by cases hp) (by simp) (fun i j k h=>by simp[lk] at h) (fun id i h=>by simp[lk] at h) ?_).run X D ρ w vs hD hm hv;rintro r' m n ⟨rfl,rfl,rfl⟩ _;exact⟨[],r',[],nx,R2 _,.same r' hr,(fun p hp=>by cases hp),by simp,(fun i j k h=>by simp[lk] at h),(fun i id h=>by simp[lk] at h),(fun p hp=>by cases hp),hk⟩
theorem a8.useC{as:List AV}(h:a8 P Γ F as r)(hΓ:∀p∈Γ,NN p.2)(ha:iL [] [] args as)(hr:NN r)(hk:K r mem nx):aM P Γ F args mem nx K:=by
 refine⟨fun X D ρ w vs hD hm hv=>?_⟩;refine(aM.use (K:=K) (nx:=nx) hΓ h [] (m1:=[]) (rest:=mem) ⟨(fun p hp=>by cases hp),fun p hp=>hp,fun p hp=>.inr hp,(fun p hp=>by cases hp),by simp⟩ hm.nod ha (fun p hp=>by cases hp) (by simp) (fun i j k h=>by simp[lk] at h) (fun id i h=>by simp[lk] at h) ?_).run X D ρ w vs hD hm hv;rintro r' m n ⟨rfl,rfl,rfl⟩ _;exact⟨[],r',[],nx,R2 _,.same r' hr,(fun p hp=>by cases hp),by simp,(fun i j k h=>by simp[lk] at h),(fun i id h=>by simp[lk] at h),(fun p hp=>by cases hp),hk⟩
theorem aA{Q:AV->aS->Nat->Prop}{m:aS}{n:Nat}(hr:NN r)(hq:Q r [] 0):lE 0 Q r m n:=
 ⟨[],r,[],0,⟨.same r hr,(fun p hp=>by cases hp),by simp,(fun i j k h=>by simp[lk] at h),(fun id i h=>by simp[lk] at h),R2 _⟩,hq⟩
theorem bF{Q:AV->aS->Nat->Prop}{m:aS}{n:Nat}{r':AV}(hr:Cv m [] r r')(hq:Q r' [] 0):lE 0 Q r m n:=
 ⟨[],r',[],0,⟨hr,(fun p hp=>by cases hp),by simp,(fun i j k h=>by simp[lk] at h),(fun id i h=>by simp[lk] at h),R2 _⟩,hq⟩
theorem bC:∀p∈([]:List (Nat × AV)),NN p.2:=fun p hp=>by cases hp
end
inductive Ge {α:Type} (B:Nat) (R:α->Prop) (I:α->St) (μ:α->Nat) (x:α) (s:St):Prop
 | mk (y:α) (σ:List (Nat × Nat)):R y->Conv B σ s (I y)->μ y<μ x->Ge B R I μ x s
theorem eA.loopAt{P:Program}{Γ:List (Nat × AV)}{B:Nat}{c:Code}{s:St}{Q:Exit->St->Prop}{α:Type}(hΓ:∀p∈Γ,NN p.2)(R:α->Prop)(I:α->St)(μ:α->Nat)(x:α)(σ:List (Nat × Nat))(hx:R x)(h0:Conv B σ s (I x))
  (h:∀x,R x->zZ false P Γ (Ci P Γ B) c (I x) fun e s=>match e with
   | .normal=>Ge B R I μ x s
   | e=>Q e s):eA P Γ B (.loop c) s Q:=by
 refine eA.conv hΓ h0 ?_;refine eA.loop (α:={ x:α // R x }) hΓ (fun x=>I x.1) (fun x=>μ x.1) (fun x=>?_) ⟨x,hx⟩;refine(fB qK c _ _ (h x.1 x.2)).mono fun e s h=>?_
 cases e with
 | normal=>
  obtain⟨y,σ,hy,hc,hlt⟩:=(show Ge B R I μ x.1 s from h)
  exact⟨⟨y,hy⟩,σ,hc,hlt⟩
 | exit i=>exact h
 | goto l=>exact h
 | ret=>exact h
 | panic c=>exact h
 | outgrown=>exact h
theorem i8{l h m n:Nat}(h1:l<=h)(h2:h<=m)(h3:m<=n):(Nat.ble l h && (Nat.ble h m && Nat.ble m n))=true:=by
 rw[Ru h1,Ru h2,Ru h3];rfl
theorem Ap{a n m:Nat}(h:n<=m):(Nat.beq a a && Nat.ble n m)=true:=by
 rw[Ru h];simp
theorem bP{e sz size bytes len n k:Nat}(h1:Nat.beq sz size=true)(hb:Nat.ble bytes 4096=true)(h2:len=n)(h3:len+k<=34359738368) :
  (Nat.beq e e && (Nat.beq sz size && (Nat.beq len n && (Nat.ble ((len+k)*bytes) 140737488355328 && Nat.ble (len+k) 9223372036854775807))))=true:=by
 have hb:=Ry hb;have hm:(len+k)*bytes<=34359738368*4096:=TE h3 hb;rw[h1,h2,Ru (by rw[h2] at hm;omega),Ru (by omega)];simp
theorem w9{bytes k:Nat}(hb:Nat.ble bytes 4096=true)(h3:k<=34359738368):(Nat.ble (k*bytes) 140737488355328 && Nat.ble k 9223372036854775807)=true:=by
 have hb:=Ry hb;have hm:k*bytes<=34359738368*4096:=TE h3 hb;rw[Ru (by omega),Ru (by omega)];rfl
def p9(mem:aS)(σ:List (Nat × Nat))(sl:List (Nat × AV)):List (Nat × AV)->Prop
 | []=>True
 | (i,v')::r=>(∃v,lk sl i=some v/\Cv mem σ v v')/\p9 mem σ sl r
theorem p9.get{mem:aS}{σ:List (Nat × Nat)}{sl:List (Nat × AV)}:∀{sl':List (Nat × AV)},p9 mem σ sl sl'->∀i v',lk sl' i=some v'->∃v,lk sl i=some v/\Cv mem σ v v'
 | [],h,i,v',hi=>by simp[lk] at hi
 | (j,u)::r,h,i,v',hi=>by
  simp only[lk] at hi;split at hi
  ·rename_i e;cases hi;rw[←Rw e];exact h.1
  ·exact p9.get h.2 i v' hi
theorem bL{B:Nat}{sl sl':List (Nat × AV)}{mem:aS}{nx nt:Nat}(h:p9 mem [] sl sl'):Conv B [] ⟨sl,mem,nx,nt⟩ ⟨sl',[],B,nt⟩:=
 ⟨rfl,fun i v' hi=>h.get i v' hi,(fun p hp=>by cases hp),by simp,(fun i j k h=>by simp[lk] at h),(fun id i h=>by simp[lk] at h),R2 _⟩
theorem Cv.eq{mem:aS}{σ:List (Nat × Nat)}{v v':AV}(hn:NN v')(h:v=v'):Cv mem σ v v':=by rw[h];exact .same v' hn
theorem Cv.slE{mem:aS}{σ:List (Nat × Nat)}{id id' off len len':Nat}(h:lk σ id=some id')(e:len=len'):Cv mem σ (.sl id off len) (.sl id' off len'):=by rw[←e];exact .sl id id' off len h
section
variable {mem:aS} {σ:List (Nat × Nat)}
theorem iL.nil:iL mem σ [] []:=⟨rfl,fun j c c' h=>by simp at h⟩
theorem iL.cons{a b:AV}{as bs:List AV}(h:Cv mem σ a b)(hs:iL mem σ as bs):iL mem σ (a::as) (b::bs):=by
 refine⟨by simp[hs.1],fun j c c' h1 h2=>?_⟩;cases j with
 | zero=>simp at h1 h2;subst h1 h2;exact h
 | succ j=>simp at h1 h2;exact hs.2 j c c' h1 h2
theorem iL.same{l:List AV}(h:g9 l):iL mem σ l l:=B4 h
theorem Cv.agg'{cs cs':List AV}(h:iL mem σ cs cs'):Cv mem σ (.agg cs) (.agg cs'):=.agg cs cs' h.1 h.2
theorem Cv.tup'{cs cs':List AV}(h:iL mem σ cs cs'):Cv mem σ (.tup cs) (.tup cs'):=.tup cs cs' h.1 h.2
theorem Da.same{x:AV}(h:NN x):Da mem σ x x:=⟨rfl,(iL.same h.cells).2⟩
theorem Da.agg{cs cs':List AV}(h:iL mem σ cs cs'):Da mem σ (.agg cs) (.agg cs'):=h
theorem Da.one{x y:AV}(hx:x.cells=[x])(hy:y.cells=[y])(h:Cv mem σ x y):Da mem σ x y:=by
 unfold Da;rw[hx,hy];exact iL.cons h .nil
theorem pS.same{xs:List AV}(h:g9 xs):pS mem σ xs xs:=
 ⟨R2 _,fun i x y h1 h2=>by rw[h1] at h2;cases h2;exact .same (h.get i x h1)⟩
theorem pS.nil{xs:List AV}:pS mem σ xs []:=⟨by simp,fun i x y h1 h2=>by simp at h2⟩
theorem pS.cons{x y:AV}{xs ys:List AV}(h:Da mem σ x y)(hs:pS mem σ xs ys):pS mem σ (x::xs) (y::ys):=by
 refine⟨by simp[hs.1],fun i a b h1 h2=>?_⟩;cases i with
 | zero=>simp at h1 h2;subst h1 h2;exact h
 | succ i=>simp at h1 h2;exact hs.2 i a b h1 h2
theorem pS.snoc{xs ys:List AV}{x y:AV}(hl:xs.length=ys.length)(hs:pS mem σ xs ys)(h:Da mem σ x y):pS mem σ (xs++[x]) (ys++[y]):=by
 refine⟨by simp[hl],fun i a b h1 h2=>?_⟩;rcases R9 i xs.length with hi|hi
 ·rw[SG hi] at h1;rw[SG (by omega)] at h2;exact hs.2 i a b h1 h2
 ·rw[SK hi] at h1;rw[SK (by omega),←hl] at h2;generalize i-xs.length=q at h1 h2;cases q with
  | zero=>simp at h1 h2;subst h1 h2;exact h
  | succ q=>simp at h1
theorem pS.to{xs xs' ys:List AV}(h:pS mem σ xs ys)(e:xs'=xs):pS mem σ xs' ys:=by rw[e];exact h
theorem pS.eq{xs ys:List AV}(h:g9 ys)(e:xs=ys):pS mem σ xs ys:=by rw[e];exact .same h
theorem Cv.fz'{id off len:Nat}{t:TypeId}{sz:Nat}{xs ys:List AV}(h1:lk mem id=some (.row t sz xs))(h2:lk σ id=none)(h3:off+len<=xs.length)(h4:(xs.drop off).take len=ys)(h5:g9 ys):Cv mem σ (.sl id off len) (.il sz ys):=by
 have hg:∀(i:Nat) (x y:AV),xs[off+i]? = some x->ys[i]? = some y->x=y:=by
  intro i x y hx hy;rw[←h4,ST] at hy;split at hy
  ·rw[SZ,hx] at hy;exact Option.some.inj hy
  ·cases hy
 refine .fz id off len t sz xs ys h1 h2 h3 (by rw[←h4];simp;omega) (fun i x y hx hy=>by rw[hg i x y hx hy]) (fun i x y j c c' hx hy hc hc'=>?_);rw[hg i x y hx hy] at hc;rw[hc] at hc';cases hc';exact .same c ((h5.get i y hy).cells.get j c hc)
def cH(mem:aS)(σ:List (Nat × Nat)):aS->Prop
 | []=>True
 | (id',b)::r=>(match b with
   | .row t sz ys=>∃id xs,lk σ id=some id'/\lk mem id=some (.row t sz xs)/\pS mem σ xs ys
   | .mapb es'=>∃id es,lk σ id=some id'/\lk mem id=some (.mapb es)/\RB mem σ es es'
   | .loop sl' nt ps ca cb st pd=>∃id sl,lk σ id=some id'/\lk mem id=some (.loop sl nt ps ca cb st pd)/\RD mem σ sl sl')/\cH mem σ r
theorem cH.cvm:∀{mem':aS},cH mem σ mem'->LC mem σ mem'
 | [],h=>fun p hp=>by cases hp
 | (id',b)::r,h=>fun p hp=>by
  rcases Rz.1 hp with rfl|hp
  ·have h1:=h.1;cases b with
   | row t sz ys=>
    obtain⟨id,xs,e1,e2,e3⟩:=h1;exact .inl ⟨id,t,sz,xs,ys,rfl,e1,e2,e3⟩
   | mapb es'=>
    obtain⟨id,es,e1,e2,e3⟩:=h1;exact .inr (.inl ⟨id,es,es',rfl,e1,e2,e3⟩)
   | loop sl' nt ps ca cb st pd=>
    obtain⟨id,sl,e1,e2,e3⟩:=h1;exact .inr (.inr ⟨id,sl,sl',nt,ps,ca,cb,st,pd,rfl,e1,e2,e3⟩)
  ·exact cH.cvm h.2 p hp
def DL(n:Nat):List (Nat × Nat)->Bool
 | []=>true
 | (_,m)::r=>!Nat.beq m n && DL n r
def jG:List (Nat × Nat)->Bool
 | []=>true
 | (_,m)::r=>DL m r && jG r
def zD(n:Nat):aS->Bool
 | []=>true
 | (m,_)::r=>!Nat.beq m n && zD n r
def iK:aS->Bool
 | []=>true
 | (m,_)::r=>zD m r && iK r
def x9(B n:Nat):List (Nat × Nat)->Bool
 | []=>true
 | (i,j)::r=>((Nat.ble B j || Nat.beq i j) && Nat.blt j n) && x9 B n r
theorem oL:∀{n:Nat} {σ:List (Nat × Nat)},DL n σ=true->∀p∈σ,p.2≠n
 | n,[],h,p,hp=>by cases hp
 | n,(i,m)::r,h,p,hp=>by
  simp only[DL,Rr] at h;rcases Rz.1 hp with rfl|hp
  ·intro e;simp only at e;subst e;simp at h
  ·exact oL h.2 p hp
theorem Fm:∀{σ:List (Nat × Nat)},jG σ=true->∀p∈σ,∀q∈σ,p.2=q.2->p=q
 | [],h,p,hp=>by cases hp
 | (i,m)::r,h,p,hp=>by
  simp only[jG,Rr] at h;intro q hq e;rcases Rz.1 hp with rfl|hp<;>rcases Rz.1 hq with rfl|hq
  ·rfl
  ·exact absurd e.symm (oL h.1 q hq)
  ·exact absurd e (oL h.1 p hp)
  ·exact Fm h.2 p hp q hq e
theorem kW{σ:List (Nat × Nat)}(h:jG σ=true):Gi σ:=fun i j k h1 h2=>by
 have:=Fm h _ (bI h1) _ (bI h2) rfl;exact congrArg Prod.fst this
theorem xN:∀{n:Nat} {m:aS},zD n m=true->n∉m.map (·.1)
 | n,[],h=>by simp
 | n,(k,b)::r,h=>by
  simp only[zD,Rr] at h;simp only[Su,Rz,not_or];refine⟨?_,xN h.2⟩;intro e;subst e;simp at h
theorem dH:∀{m:aS},iK m=true->(m.map (·.1)).Nodup
 | [],h=>by simp
 | (k,b)::r,h=>by
  simp only[iK,Rr] at h;simp only[Su,Sm];exact⟨xN h.1,dH h.2⟩
theorem zT{B n:Nat}:∀{σ:List (Nat × Nat)},x9 B n σ=true->∀id id',lk σ id=some id'->(id'<B->id'=id)/\id'<n:=by
 intro σ h id id' hl;have hmem:=bI hl;clear hl
 induction σ with
 | nil=>cases hmem
 | cons p r ih=>
  obtain⟨i,j⟩:=p;simp only[x9,Rr,Sv] at h;rcases Rz.1 hmem with e|hmem
  ·cases e;refine⟨fun hb=>?_,Ry h.1.2⟩;rcases h.1.1 with h1|h1
   ·have a2:=Ry h1;omega
   ·exact(Rw h1).symm
  ·exact ih h.2 hmem
theorem aJ{B:Nat}{sl sl':List (Nat × AV)}{mem':aS}{nx nx' nt:Nat}(σ:List (Nat × Nat))(hc:(jG σ && (iK mem' && (x9 B nx' σ && Nat.ble B nx')))=true)(hm:cH mem σ mem')(h:p9 mem σ sl sl') :
  Conv B σ ⟨sl,mem,nx,nt⟩ ⟨sl',mem',nx',nt⟩:=by
 simp only[Rr] at hc;exact⟨rfl,fun i v' hi=>h.get i v' hi,hm.cvm,dH hc.2.1,kW hc.1,zT hc.2.2.1,Ry hc.2.2.2⟩
theorem bK{B:Nat}{Q:AV->aS->Nat->Prop}{r r':AV}{m':aS}{n n':Nat}(σ:List (Nat × Nat))(hc:(jG σ && (iK m' && (x9 B n' σ && Nat.ble B n')))=true)(hm:cH mem σ m')(hr:Cv mem σ r r')(hq:Q r' m' n'):lE B Q r mem n:=by
 simp only[Rr] at hc;exact .mk σ r' m' n' ⟨hr,hm.cvm,dH hc.2.1,kW hc.1,zT hc.2.2.1,Ry hc.2.2.2⟩ hq
end
theorem sE:∀{m:aS} {id:Nat} {p:Nat × AB},p∈m->p.1≠id->p∈drop id m
 | (k,u)::r,id,p,hp,hne=>by
  simp only[drop];rcases Rz.1 hp with rfl|hp
  ·rw[qW hne];exact SL ..
  ·split
   ·exact hp
   ·exact SE _ (sE hp hne)
theorem aM.use1{P:Program}{Γ:List (Nat × AV)}{F:FuncId}{as args:List AV}{mem:aS}{nx:Nat}{t:TypeId}{sz:Nat}{xs:List AV}{Qs K:AV->aS->Nat->Prop}(hΓ:∀p∈Γ,NN p.2)
  (h:aM P Γ F as [(0,.row t sz xs)] 1 Qs) (g:Nat) (hg:lk mem g=some (.row t sz xs)) (hx:g9 xs) (hargs:iL [(g,.row t sz xs)] [(g,0)] args as)
  (hk:∀r m n,Qs r m n->∃xs',m=[(0,.row t sz xs')]/\NN r/\g9 xs'/\Dq g mem fun rest=>K r ((g,.row t sz xs')::rest) nx):aM P Γ F args mem nx K:=by
 refine⟨fun X D ρ w vs hD hm hv=>?_⟩;refine(aM.use (K:=K) (nx:=nx) hΓ h [(g,0)] (m1:=[(g,.row t sz xs)]) (rest:=drop g mem) ⟨fun p hp=>?_,fun p hp=>dB hp,fun p hp=>?_,fun p hp q hq=>?_,by simp⟩ (jV hm.nod) hargs (fun p hp=>?_) (by simp) (kW (by rfl)) (fun id i hl=>?_) ?_).run X D ρ w vs hD hm hv
 ·simp at hp;subst hp;exact bI hg
 ·by_cases hpg:p.1=g
  ·left;have:=pU hm.nod hp (bI hg) hpg;rw[this];simp
  ·exact .inr (sE hp hpg)
 ·simp at hp;subst hp;exact Ne.symm (pW hm.nod hq)
 ·simp at hp;subst hp;exact .inl ⟨g,t,sz,xs,xs,rfl,by simp[lk],by simp[lk],.same hx⟩
 ·have:=bI hl;simp at this;omega
 ·intro r m n hq hn;obtain⟨xs',rfl,h1,h2,h3⟩:=hk r m n hq;refine⟨[(0,g)],r,[(g,.row t sz xs')],nx,R2 _,.same r h1,fun p hp=>?_,by simp,kW (by rfl),fun i id hl=>?_,fun p hp q hq=>?_,uF.1 h3⟩
  ·simp at hp;subst hp;exact .inl ⟨0,t,sz,xs',xs',rfl,by simp[lk],by simp[lk],.same h2⟩
  ·have:=bI hl;simp at this;obtain⟨rfl,rfl⟩:=this;exact .inl ⟨by omega,by simp[lk]⟩
  ·simp at hp;subst hp;exact Ne.symm (pW hm.nod hq)
mutual
def bT:bB->AV
 | .mk k n s kids=>.agg [.int .i64 k,.int .i64 n,.str s,.il 4 (aT kids)]
def aT:List bB->List AV
 | []=>[]
 | v::r=>bT v::aT r
end
theorem fK:∀l:List bB,aT l=l.map bT
 | []=>by simp[aT]
 | v::r=>by simp[aT,fK r]
mutual
theorem bM:∀v:bB,NN (bT v)
 | .mk k n s kids=>by
  simp only[bT];exact .agg' (.cons (.int _ _) (.cons (.int _ _) (.cons (.str _) (.cons (.il' (aV kids)) .nil))))
theorem aV:∀l:List bB,g9 (aT l)
 | []=>by simp only[aT];exact .nil
 | v::r=>by simp only[aT];exact .cons (bM v) (aV r)
end
def i64(n:Int):Prop:=-9223372036854775808<=n/\n<=9223372036854775807
mutual
def iA:bB->Prop
 | .mk k n s kids=>i64 k/\i64 n/\s.length<=4294967296/\kids.length<=4294967296/\yZ kids
def yZ:List bB->Prop
 | []=>True
 | v::r=>iA v/\yZ r
end
theorem pC:∀{l:List bB},yZ l->∀v∈l,iA v
 | [],_,v,h=>by cases h
 | a::r,h,v,hv=>by
  simp only[yZ] at h;rcases Rz.1 hv with rfl|hv
  ·exact h.1
  ·exact pC h.2 v hv
theorem qI:∀{l:List bB},(∀v∈l,iA v)->yZ l
 | [],_=>by simp[yZ]
 | a::r,h=>by simp only[yZ];exact⟨h a (SL ..),qI fun v hv=>h v (SE _ hv)⟩
theorem bY{n:Int}(h:i64 n):IntKind.i64.wrap n=n:=IntWalk.i64_in n h
def aI(l:List Int):List AV:=l.map (AV.int .i64)
theorem aG(l:List Int):g9 (aI l):=fun a ha=>by
 obtain⟨n,_,rfl⟩:=SJ.1 ha;exact .int _ _
theorem bG(l:List Int)(i:Nat):(aI l)[i]? = (l[i]?).map (AV.int .i64):=by rw[aI,So]
theorem aE(l:List Int):(aI l).length=l.length:=by rw[aI,TO]
theorem i6(l:List bB)(i:Nat):(aT l)[i]? = (l[i]?).map bT:=by rw[fK,So]
theorem aF(l:List bB):(aT l).length=l.length:=by rw[fK,TO]
end Go.Ax
namespace Go.Ax
open Go
theorem xS:∀(x y:List UInt8),Op.bytesLess x y=decide (jF x y<0)
 | [],[]=>rfl
 | [],_::_=>rfl
 | _::_,[]=>rfl
 | a::x,b::y=>by
  simp only[Op.bytesLess,jF,xS x y];by_cases h:a<b
  ·simp[h]
  ·by_cases h':b<a
   ·have hne:¬a=b:=by rintro rfl;exact h h'
    simp[h,h',hne]
   ·have he:a=b:=by
     rw[←UInt8.toNat_inj];simp only[UInt8.lt_iff_toNat_lt] at h h';omega
    subst he;simp[h]
theorem pV:∀(x y:List UInt8),jF x y = -1∨jF x y=0∨jF x y=1
 | [],[]=>by simp[jF]
 | [],_::_=>by simp[jF]
 | _::_,[]=>by simp[jF]
 | a::x,b::y=>by
  simp only[jF];split
  ·simp
  ·split
   ·simp
   ·exact pV x y
theorem nF:∀{x y:List UInt8},jF x y=0->x=y
 | [],[],_=>rfl
 | [],_::_,h=>by simp[jF] at h
 | _::_,[],h=>by simp[jF] at h
 | a::x,b::y,h=>by
  simp only[jF] at h;split at h
  ·cases h
  ·split at h
   ·cases h
   ·rename_i h1 h2;have he:a=b:=by
     rw[←UInt8.toNat_inj];simp only[UInt8.lt_iff_toNat_lt] at h1 h2;omega
    rw[he,nF h]
theorem Cy{x y:List UInt8}:Op.bytesLess x y=true↔jF x y = -1:=by
 rw[xS];have:=pV x y;simp;omega
theorem I3{x y:List UInt8}(h:Op.bytesLess x y=false)(h':(!(Op.bytesLess x y || x == y))=true):jF x y=1:=by
 rw[h] at h';simp at h';rw[xS] at h;simp at h;have:=pV x y;rcases this with e|e|e
 ·omega
 ·exact absurd (nF e) h'
 ·exact e
theorem JW{x y:List UInt8}(h:Op.bytesLess x y=false)(h':(!(Op.bytesLess x y || x == y))=false):jF x y=0:=by
 rw[h] at h';simp at h';subst h';exact(pF x).refl
section
variable {ka na:Int} {sa:List UInt8} {ksa:List bB} {kb nb:Int} {sb:List UInt8} {ksb:List bB}
theorem EQ{a b:Int}(h:a≠b):jZ a b=if a<b then -1 else 1:=by
 unfold jZ;split
 ·rfl
 ·rw[Rx (by omega)]
theorem qY{a b:Int}(h:a≠b):jZ a b≠0:=by
 rw[EQ h];split<;>decide
theorem Ju(h:ka≠kb):cN (.mk ka na sa ksa) (.mk kb nb sb ksb)=if ka<kb then -1 else 1:=by
 rw[cN,andThen,Rp (qY h),EQ h]
theorem Ku(h:ka=kb)(h2:na≠nb):cN (.mk ka na sa ksa) (.mk kb nb sb ksb)=if na<nb then -1 else 1:=by
 rw[cN,andThen,Rx (by rw[h];exact(iE kb).refl),andThen,Rp (qY h2),EQ h2]
theorem PP(h:ka=kb)(h2:na=nb)(h3:sa≠sb):cN (.mk ka na sa ksa) (.mk kb nb sb ksb)=if Op.bytesLess sa sb=true then -1 else 1:=by
 rw[cN,andThen,Rx (by rw[h];exact(iE kb).refl),andThen,Rx (by rw[h2];exact(iE nb).refl),andThen,Rp (fun e=>h3 (nF e))];rcases pV sa sb with e|e|e
 ·rw[Rx (Cy.2 e),e]
 ·exact absurd (nF e) h3
 ·have:¬Op.bytesLess sa sb=true:=by rw[xS,e];simp
  rw[Rp this,e]
theorem Ox(h:ka=kb)(h2:na=nb)(h3:sa=sb):cN (.mk ka na sa ksa) (.mk kb nb sb ksb)=fU ksa ksb:=by
 rw[cN,andThen,Rx (by rw[h];exact(iE kb).refl),andThen,Rx (by rw[h2];exact(iE nb).refl),andThen,Rx (by rw[h3];exact(pF sb).refl)]
end
theorem DK{l1 l2:List bB}{k:Nat}(h1:k<l1.length)(h2:k<l2.length):fU (l1.drop k) (l2.drop k)=andThen (cN l1[k] l2[k]) (fU (l1.drop (k+1)) (l2.drop (k+1))):=by
 rw[SH h1,SH h2,fU]
theorem zI{l:List bB}{k:Nat}(h:k<l.length):(aT l)[(k:Int).toNat]? = some (bT l[k]):=by
 rw[Rq,i6,Rm h];rfl
end Go.Ax
namespace Go.Ax
open Go
def d9:List bB->bB->Nat × Bool
 | [],_=>(0,false)
 | a::r,v=>if 0<=cN a v then(0,cN a v == 0) else((d9 r v).1+1,(d9 r v).2)
def EN(l:List bB)(k:Nat)(v:bB):Bool:=
 match l[k]? with
 | some a=>cN a v == 0
 | none=>false
theorem rW:∀{l:List bB} {v:bB} {k:Nat},k<=l.length->(∀p a,p<k->l[p]? = some a->cN a v<0)->(∀a,l[k]? = some a->0<=cN a v)->d9 l v=(k,EN l k v)
 | [],v,k,hk,h1,h2=>by
  have:k=0:=by simpa using hk
  subst this;simp[d9,EN]
 | a::r,v,0,hk,h1,h2=>by
  have:=h2 a (by simp);simp[d9,this,EN]
 | a::r,v,k+1,hk,h1,h2=>by
  have h0:=h1 0 a (by omega) (by simp);have ih:=rW (l:=r) (v:=v) (k:=k) (by simpa using hk) (fun p b hp hb=>h1 (p+1) b (by omega) (by simpa using hb)) (fun b hb=>h2 b (by simpa using hb));rw[d9,Rp (by omega),ih];simp[EN]
theorem xC:∀(l:List bB) (v:bB),(d9 l v).1<=l.length
 | [],v=>by simp[d9]
 | a::r,v=>by
  simp only[d9];split
  ·simp
  ·have:=xC r v;simp;omega
def rY(out:List bB)(v:bB):List bB:=if (d9 out v).2 then out else out.take (d9 out v).1++v::out.drop (d9 out v).1
def eJ(l:List bB):List bB:=l.foldl rY []
theorem oE(l:List bB)(v:bB):eJ (l++[v])=rY (eJ l) v:=by simp[eJ]
theorem Fy{out:List bB}{v x:bB}(h:x∈rY out v):x=v∨x∈out:=by
 unfold rY at h;split at h
 ·exact .inr h
 ·rcases R5.1 h with h|h
  ·exact .inr (Se h)
  ·rcases Rz.1 h with h|h
   ·exact .inl h
   ·exact .inr (Sq h)
theorem Fs(out:List bB)(v:bB):(rY out v).length<=out.length+1:=by
 unfold rY;split
 ·omega
 ·simp only[Ro,Sa,SX,Tj];have:=xC out v;omega
theorem q7:∀l:List bB,(eJ l).length<=l.length:=by
 intro l;rw[←TQ l];generalize l.reverse=r
 induction r with
 | nil=>simp[eJ]
 | cons a r ih=>
  rw[Td,oE];have:=Fs (eJ r.reverse) a;simp only[Ro,SQ];omega
theorem pJ{l:List bB}{x:bB}:x∈eJ l->x∈l:=by
 rw[←TQ l];generalize l.reverse=r
 induction r with
 | nil=>simp[eJ]
 | cons a r ih=>
  rw[Td,oE];intro h;rcases Fy h with rfl|h
  ·simp
  ·exact SU _ (ih h)
theorem E5{a b c:bB}(h1:cN a b<0)(h2:cN b c<=0):cN a c<0:=by
 have g:=lU a;have t:=g.trans b c (by omega) h2;rcases UE t with h|h
 ·exact h
 ·have:=(g.strict b c (by omega) h2 h).1;omega
theorem QB{a b c:bB}(h1:cN a b<=0)(h2:cN b c<0):cN a c<0:=by
 have g:=lU a;have t:=g.trans b c h1 (by omega);rcases UE t with h|h
 ·exact h
 ·have:=(g.strict b c h1 (by omega) h).2;omega
theorem IL{a b:bB}(h:0<cN a b):cN b a<0:=by rw[(lU a).anti b];omega
def lN(l:List bB):Prop:=l.Pairwise fun a b=>cN a b<0
theorem DB(a:bB)(r:List bB)(v:bB):rY (a::r) v=if 0<=cN a v then(if cN a v == 0 then a::r else v::a::r) else a::rY r v:=by
 unfold rY;by_cases h:0<=cN a v
 ·simp only[d9,Rx h];rfl
 ·simp only[d9,Rp h];split<;>simp_all
theorem GB:∀{l:List bB} {v:bB},lN l->lN (rY l v)
 | [],v,_=>by simp[rY,d9,lN]
 | a::r,v,h=>by
  unfold lN at h ⊢;rw[SV] at h;rw[DB];split
  ·rename_i h0;split
   ·exact SV.2 h
   ·rename_i h1;have h1:cN a v≠0:=by simpa using h1
    have hva:=IL (show 0<cN a v by omega);refine SV.2 ⟨fun b hb=>?_,SV.2 h⟩;rcases Rz.1 hb with rfl|hb
    ·exact hva
    ·exact E5 hva (by have:=h.1 b hb;omega)
  ·rename_i h0;refine SV.2 ⟨fun b hb=>?_,GB (l:=r) h.2⟩;rcases Fy hb with rfl|hb
   ·omega
   ·exact h.1 b hb
theorem t7:∀l:List bB,lN (eJ l):=by
 intro l;rw[←TQ l];generalize l.reverse=r
 induction r with
 | nil=>simp[eJ,lN]
 | cons a r ih=>rw[Td,oE];exact GB ih
theorem lN.get{l:List bB}(h:lN l){i j:Nat}{a b:bB}(hij:i<j)(ha:l[i]? = some a)(hb:l[j]? = some b):cN a b<0:=by
 obtain⟨hi,rfl⟩:=Rt.1 ha;obtain⟨hj,rfl⟩:=Rt.1 hb;exact Ub.1 h i j hi hj hij
end Go.Ax
