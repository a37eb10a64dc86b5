/- A part of the proof. -/
import Derived.Test.YtidjhgajglebnaaGreatDoorAx6
import Derived.IntWalk
set_option linter.unusedVariables false
set_option linter.unusedSimpArgs false
namespace Go.Ax
open Go
def kI(l:List AV):Prop:=∀a∈l,NN a
theorem kI.get{l:List AV}(h:kI l)(j:Nat)(c:AV)(hc:l[j]? = some c):NN c:=h c (Yv hc)
theorem kI.nil:kI []:=fun a h=>by cases h
theorem kI.cons{a:AV}{l:List AV}(h:NN a)(hl:kI l):kI (a::l):=fun b hb=>by
 rcases Yr.1 hb with rfl|hb
 ·exact h
 ·exact hl b hb
theorem NN.agg'{cs:List AV}(h:kI cs):NN (.agg cs):=.agg cs h.get
theorem NN.tup'{cs:List AV}(h:kI cs):NN (.tup cs):=.tup cs h.get
theorem NN.cells{v:AV}(h:NN v):kI v.cells:=by
 cases v with
 | agg cs=>cases h with|agg _ hn=>intro a ha;obtain⟨j,hj⟩:=ZQ ha;exact hn j a hj
 | _=>intro a ha;simp[AV.cells] at ha;subst ha;exact h
theorem NN.il'{sz:Nat}{xs:List AV}(h:kI xs):NN (.il sz xs):=.il sz xs fun i x j c hi hj=>(h.get i x hi).cells.get j c hj
theorem NN.ip'{v:AV}(h:NN v):NN (.ip v):=.ip v fun j c hj=>h.cells.get j c hj
def aT(P:Program)(Γ:List (Nat × AV))(F:FuncId)(args:List AV)(r:AV):Prop:=aF P Γ F args [] 0 fun r' m n=>r'=r/\m=[]/\n=0
section
variable {P:Program} {Γ:List (Nat × AV)} {F:FuncId} {args:List AV} {r:AV} {mem:aQ} {nx:Nat} {K:AV->aQ->Nat->Prop}
theorem D9{mem:aQ}{σ:List (Nat × Nat)}(ha:kI args):iB mem σ args args:=
 ⟨rfl,fun j c c' h1 h2=>by rw[h1] at h2;cases h2;exact .same c (ha.get j c h1)⟩
theorem aF.call0{Qs:AV->aQ->Nat->Prop}(hΓ:∀p∈Γ,NN p.2)(h:aF P Γ F args [] 0 Qs)(ha:kI args)
  (hk:∀r m n,Qs r m n->∃r',Cv m [] r r'/\K r' mem nx):aF P Γ F args mem nx K:=by
 refine⟨fun X D ρ w vs hD hm hv=>?_⟩;refine(aF.use (K:=K) (nx:=nx) hΓ h [] (m1:=[]) (rest:=mem) ⟨(fun p hp=>by cases hp),fun p hp=>hp,fun p hp=>.inr hp,(fun p hp=>by cases hp),by simp⟩ hm.nod (D9 ha) (fun p hp=>by cases hp) (by simp) (fun i j k h=>by simp[lk] at h) (fun id i h=>by simp[lk] at h) ?_).run X D ρ w vs hD hm hv;intro r m n hq _;obtain⟨r',h1,h2⟩:=hk r m n hq;exact⟨[],r',[],nx,Yy _,h1,(fun p hp=>by cases hp),by simp,(fun i j k h=>by simp[lk] at h),(fun i id h=>by simp[lk] at h),(fun p hp=>by cases hp),h2⟩
theorem aT.use(h:aT P Γ F args r)(hΓ:∀p∈Γ,NN p.2)(ha:kI args)(hr:NN r)(hk:K r mem nx):aF P Γ F args mem nx K:=
 aF.call0 hΓ h ha fun r' m n ⟨e1,e2,e3⟩=>⟨r,by rw[e1];exact .same r hr,hk⟩
theorem aT.lend{as:List AV}(h:aT P Γ F as r)(hΓ:∀p∈Γ,NN p.2)(ha:iB mem [] args as)(hr:Sc r)(hk:K r mem nx):aF P Γ F args mem nx K:=
 aF.lend hΓ h ha fun r' m n ⟨e1,e2,e3⟩=>⟨by rw[e1];exact hr,by rw[e1];exact hk⟩
theorem aT.drop{as:List AV}(h:aT P Γ F as r)(hΓ:∀p∈Γ,NN p.2)(ha:iB mem [] args as)(hr:NN r)(hk:K r [] nx):aF P Γ F args mem nx K:=by
 refine⟨fun X D ρ w vs hD hm hv=>?_⟩;refine(aF.use (K:=K) (nx:=nx) hΓ h [] (m1:=mem) (rest:=[]) ⟨fun p hp=>hp,(fun p hp=>by cases hp),fun p hp=>.inl hp,(fun p _ q hq=>by cases hq),hm.nod⟩ (by simp) ha (fun p hp=>by cases hp) (by simp) (fun i j k h=>by simp[lk] at h) (fun id i h=>by simp[lk] at h) ?_).run X D ρ w vs hD hm hv;rintro r' m n ⟨rfl,rfl,rfl⟩ _;exact⟨[],r',[],nx,Yy _,.same r' hr,(fun p hp=>by cases hp),by simp,(fun i j k h=>by simp[lk] at h),(fun i id h=>by simp[lk] at h),(fun p hp=>by cases hp),hk⟩
theorem aT.useC{as:List AV}(h:aT P Γ F as r)(hΓ:∀p∈Γ,NN p.2)(ha:iB [] [] args as)(hr:NN r)(hk:K r mem nx):aF P Γ F args mem nx K:=by
 refine⟨fun X D ρ w vs hD hm hv=>?_⟩;refine(aF.use (K:=K) (nx:=nx) hΓ h [] (m1:=[]) (rest:=mem) ⟨(fun p hp=>by cases hp),fun p hp=>hp,fun p hp=>.inr hp,(fun p hp=>by cases hp),by simp⟩ hm.nod ha (fun p hp=>by cases hp) (by simp) (fun i j k h=>by simp[lk] at h) (fun id i h=>by simp[lk] at h) ?_).run X D ρ w vs hD hm hv;rintro r' m n ⟨rfl,rfl,rfl⟩ _;exact⟨[],r',[],nx,Yy _,.same r' hr,(fun p hp=>by cases hp),by simp,(fun i j k h=>by simp[lk] at h),(fun i id h=>by simp[lk] at h),(fun p hp=>by cases hp),hk⟩
theorem aA{Q:AV->aQ->Nat->Prop}{m:aQ}{n:Nat}(hr:NN r)(hq:Q r [] 0):qE 0 Q r m n:=
 ⟨[],r,[],0,⟨.same r hr,(fun p hp=>by cases hp),by simp,(fun i j k h=>by simp[lk] at h),(fun id i h=>by simp[lk] at h),Yy _⟩,hq⟩
theorem fL{Q:AV->aQ->Nat->Prop}{m:aQ}{n:Nat}{r':AV}(hr:Cv m [] r r')(hq:Q r' [] 0):qE 0 Q r m n:=
 ⟨[],r',[],0,⟨hr,(fun p hp=>by cases hp),by simp,(fun i j k h=>by simp[lk] at h),(fun id i h=>by simp[lk] at h),Yy _⟩,hq⟩
theorem bD:∀p∈([]:List (Nat × AV)),NN p.2:=fun p hp=>by cases hp
end
inductive Jp {α:Type} (B:Nat) (R:α->Prop) (I:α->St) (μ:α->Nat) (x:α) (s:St):Prop
 | mk (y:α) (σ:List (Nat × Nat)):R y->Conv B σ s (I y)->μ y<μ x->Jp B R I μ x s
theorem fR.loopAt{P:Program}{Γ:List (Nat × AV)}{B:Nat}{c:Code}{s:St}{Q:Exit->St->Prop}{α:Type}(hΓ:∀p∈Γ,NN p.2)(R:α->Prop)(I:α->St)(μ:α->Nat)(x:α)(σ:List (Nat × Nat))(hx:R x)(h0:Conv B σ s (I x))
  (h:∀x,R x->BM false P Γ (Ks P Γ B) c (I x) fun e s=>match e with
   | .normal=>Jp B R I μ x s
   | e=>Q e s):fR P Γ B (.loop c) s Q:=by
 refine fR.conv hΓ h0 ?_;refine fR.loop (α:={ x:α // R x }) hΓ (fun x=>I x.1) (fun x=>μ x.1) (fun x=>?_) ⟨x,hx⟩;refine(eB sN c _ _ (h x.1 x.2)).mono fun e s h=>?_
 cases e with
 | normal=>
  obtain⟨y,σ,hy,hc,hlt⟩:=(show Jp B R I μ x.1 s from h)
  exact⟨⟨y,hy⟩,σ,hc,hlt⟩
 | exit i=>exact h
 | goto l=>exact h
 | ret=>exact h
 | panic c=>exact h
 | outgrown=>exact h
theorem JU{l h m n:Nat}(h1:l<=h)(h2:h<=m)(h3:m<=n):(Nat.ble l h && (Nat.ble h m && Nat.ble m n))=true:=by
 rw[Yp h1,Yp h2,Yp h3];rfl
theorem Ke{a n m:Nat}(h:n<=m):(Nat.beq a a && Nat.ble n m)=true:=by
 rw[Yp h];simp
theorem bT{e sz size bytes len n k:Nat}(h1:Nat.beq sz size=true)(hb:Nat.ble bytes 4096=true)(h2:len=n)(h3:len+k<=34359738368) :
  (Nat.beq e e && (Nat.beq sz size && (Nat.beq len n && (Nat.ble ((len+k)*bytes) 140737488355328 && Nat.ble (len+k) 9223372036854775807))))=true:=by
 have hb:=Yq hb;have hm:(len+k)*bytes<=34359738368*4096:=Zs h3 hb;rw[h1,h2,Yp (by rw[h2] at hm;omega),Yp (by omega)];simp
theorem Ad{bytes k:Nat}(hb:Nat.ble bytes 4096=true)(h3:k<=34359738368):(Nat.ble (k*bytes) 140737488355328 && Nat.ble k 9223372036854775807)=true:=by
 have hb:=Yq hb;have hm:k*bytes<=34359738368*4096:=Zs h3 hb;rw[Yp (by omega),Yp (by omega)];rfl
def Bi(mem:aQ)(σ:List (Nat × Nat))(sl:List (Nat × AV)):List (Nat × AV)->Prop
 | []=>True
 | (i,v')::r=>(∃v,lk sl i=some v/\Cv mem σ v v')/\Bi mem σ sl r
theorem Bi.get{mem:aQ}{σ:List (Nat × Nat)}{sl:List (Nat × AV)}:∀{sl':List (Nat × AV)},Bi mem σ sl sl'->∀i v',lk sl' i=some v'->∃v,lk sl i=some v/\Cv mem σ v v'
 | [],h,i,v',hi=>by simp[lk] at hi
 | (j,u)::r,h,i,v',hi=>by
  simp only[lk] at hi;split at hi
  ·rename_i e;cases hi;rw[←Nat.eq_of_beq_eq_true e];exact h.1
  ·exact Bi.get h.2 i v' hi
theorem bL{B:Nat}{sl sl':List (Nat × AV)}{mem:aQ}{nx nt:Nat}(h:Bi mem [] sl sl'):Conv B [] ⟨sl,mem,nx,nt⟩ ⟨sl',[],B,nt⟩:=
 ⟨rfl,fun i v' hi=>h.get i v' hi,(fun p hp=>by cases hp),by simp,(fun i j k h=>by simp[lk] at h),(fun id i h=>by simp[lk] at h),Yy _⟩
theorem Cv.eq{mem:aQ}{σ:List (Nat × Nat)}{v v':AV}(hn:NN v')(h:v=v'):Cv mem σ v v':=by rw[h];exact .same v' hn
theorem Cv.slE{mem:aQ}{σ:List (Nat × Nat)}{id id' off len len':Nat}(h:lk σ id=some id')(e:len=len'):Cv mem σ (.sl id off len) (.sl id' off len'):=by rw[←e];exact .sl id id' off len h
section
variable {mem:aQ} {σ:List (Nat × Nat)}
theorem iB.nil:iB mem σ [] []:=⟨rfl,fun j c c' h=>by simp at h⟩
theorem iB.cons{a b:AV}{as bs:List AV}(h:Cv mem σ a b)(hs:iB mem σ as bs):iB mem σ (a::as) (b::bs):=by
 refine⟨by simp[hs.1],fun j c c' h1 h2=>?_⟩;cases j with
 | zero=>simp at h1 h2;subst h1 h2;exact h
 | succ j=>simp at h1 h2;exact hs.2 j c c' h1 h2
theorem iB.same{l:List AV}(h:kI l):iB mem σ l l:=D9 h
theorem Cv.agg'{cs cs':List AV}(h:iB mem σ cs cs'):Cv mem σ (.agg cs) (.agg cs'):=.agg cs cs' h.1 h.2
theorem Cv.tup'{cs cs':List AV}(h:iB mem σ cs cs'):Cv mem σ (.tup cs) (.tup cs'):=.tup cs cs' h.1 h.2
theorem C7.same{x:AV}(h:NN x):C7 mem σ x x:=⟨rfl,(iB.same h.cells).2⟩
theorem C7.agg{cs cs':List AV}(h:iB mem σ cs cs'):C7 mem σ (.agg cs) (.agg cs'):=h
theorem C7.one{x y:AV}(hx:x.cells=[x])(hy:y.cells=[y])(h:Cv mem σ x y):C7 mem σ x y:=by
 unfold C7;rw[hx,hy];exact iB.cons h .nil
theorem tL.same{xs:List AV}(h:kI xs):tL mem σ xs xs:=
 ⟨Yy _,fun i x y h1 h2=>by rw[h1] at h2;cases h2;exact .same (h.get i x h1)⟩
theorem tL.nil{xs:List AV}:tL mem σ xs []:=⟨by simp,fun i x y h1 h2=>by simp at h2⟩
theorem tL.cons{x y:AV}{xs ys:List AV}(h:C7 mem σ x y)(hs:tL mem σ xs ys):tL mem σ (x::xs) (y::ys):=by
 refine⟨by simp[hs.1],fun i a b h1 h2=>?_⟩;cases i with
 | zero=>simp at h1 h2;subst h1 h2;exact h
 | succ i=>simp at h1 h2;exact hs.2 i a b h1 h2
theorem tL.snoc{xs ys:List AV}{x y:AV}(hl:xs.length=ys.length)(hs:tL mem σ xs ys)(h:C7 mem σ x y):tL mem σ (xs++[x]) (ys++[y]):=by
 refine⟨by simp[hl],fun i a b h1 h2=>?_⟩;rcases Y5 i xs.length with hi|hi
 ·rw[ZL hi] at h1;rw[ZL (by omega)] at h2;exact hs.2 i a b h1 h2
 ·rw[ZR hi] at h1;rw[ZR (by omega),←hl] at h2;generalize i-xs.length=q at h1 h2;cases q with
  | zero=>simp at h1 h2;subst h1 h2;exact h
  | succ q=>simp at h1
theorem tL.to{xs xs' ys:List AV}(h:tL mem σ xs ys)(e:xs'=xs):tL mem σ xs' ys:=by rw[e];exact h
theorem tL.eq{xs ys:List AV}(h:kI ys)(e:xs=ys):tL mem σ xs ys:=by rw[e];exact .same h
theorem Cv.fz'{id off len:Nat}{t:TypeId}{sz:Nat}{xs ys:List AV}(h1:lk mem id=some (.row t sz xs))(h2:lk σ id=none)(h3:off+len<=xs.length)(h4:(xs.drop off).take len=ys)(h5:kI ys):Cv mem σ (.sl id off len) (.il sz ys):=by
 have hg:∀(i:Nat) (x y:AV),xs[off+i]? = some x->ys[i]? = some y->x=y:=by
  intro i x y hx hy;rw[←h4,ZJ] at hy;split at hy
  ·rw[ZY,hx] at hy;exact Option.some.inj hy
  ·cases hy
 refine .fz id off len t sz xs ys h1 h2 h3 (by rw[←h4];simp;omega) (fun i x y hx hy=>by rw[hg i x y hx hy]) (fun i x y j c c' hx hy hc hc'=>?_);rw[hg i x y hx hy] at hc;rw[hc] at hc';cases hc';exact .same c ((h5.get i y hy).cells.get j c hc)
def dV(mem:aQ)(σ:List (Nat × Nat)):aQ->Prop
 | []=>True
 | (id',b)::r=>(match b with
   | .row t sz ys=>∃id xs,lk σ id=some id'/\lk mem id=some (.row t sz xs)/\tL mem σ xs ys
   | .mapb es'=>∃id es,lk σ id=some id'/\lk mem id=some (.mapb es)/\XX mem σ es es'
   | .loop sl' nt ps ca cb st pd=>∃id sl,lk σ id=some id'/\lk mem id=some (.loop sl nt ps ca cb st pd)/\YD mem σ sl sl')/\dV mem σ r
theorem dV.cvm:∀{mem':aQ},dV mem σ mem'->U5 mem σ mem'
 | [],h=>fun p hp=>by cases hp
 | (id',b)::r,h=>fun p hp=>by
  rcases Yr.1 hp with rfl|hp
  ·have h1:=h.1;cases b with
   | row t sz ys=>
    obtain⟨id,xs,e1,e2,e3⟩:=h1;exact .inl ⟨id,t,sz,xs,ys,rfl,e1,e2,e3⟩
   | mapb es'=>
    obtain⟨id,es,e1,e2,e3⟩:=h1;exact .inr (.inl ⟨id,es,es',rfl,e1,e2,e3⟩)
   | loop sl' nt ps ca cb st pd=>
    obtain⟨id,sl,e1,e2,e3⟩:=h1;exact .inr (.inr ⟨id,sl,sl',nt,ps,ca,cb,st,pd,rfl,e1,e2,e3⟩)
  ·exact dV.cvm h.2 p hp
def Ew(n:Nat):List (Nat × Nat)->Bool
 | []=>true
 | (_,m)::r=>!Nat.beq m n && Ew n r
def n9:List (Nat × Nat)->Bool
 | []=>true
 | (_,m)::r=>Ew m r && n9 r
def zM(n:Nat):aQ->Bool
 | []=>true
 | (m,_)::r=>!Nat.beq m n && zM n r
def oD:aQ->Bool
 | []=>true
 | (m,_)::r=>zM m r && oD r
def wJ(B n:Nat):List (Nat × Nat)->Bool
 | []=>true
 | (i,j)::r=>((Nat.ble B j || Nat.beq i j) && Nat.blt j n) && wJ B n r
theorem qY:∀{n:Nat} {σ:List (Nat × Nat)},Ew n σ=true->∀p∈σ,p.2≠n
 | n,[],h,p,hp=>by cases hp
 | n,(i,m)::r,h,p,hp=>by
  simp only[Ew,Yk] at h;rcases Yr.1 hp with rfl|hp
  ·intro e;simp only at e;subst e;simp at h
  ·exact qY h.2 p hp
theorem IF:∀{σ:List (Nat × Nat)},n9 σ=true->∀p∈σ,∀q∈σ,p.2=q.2->p=q
 | [],h,p,hp=>by cases hp
 | (i,m)::r,h,p,hp=>by
  simp only[n9,Yk] at h;intro q hq e;rcases Yr.1 hp with rfl|hp<;>rcases Yr.1 hq with rfl|hq
  ·rfl
  ·exact absurd e.symm (qY h.1 q hq)
  ·exact absurd e (qY h.1 p hp)
  ·exact IF h.2 p hp q hq e
theorem qT{σ:List (Nat × Nat)}(h:n9 σ=true):RQ σ:=fun i j k h1 h2=>by
 have:=IF h _ (bV h1) _ (bV h2) rfl;exact congrArg Prod.fst this
theorem A9:∀{n:Nat} {m:aQ},zM n m=true->n∉m.map (·.1)
 | n,[],h=>by simp
 | n,(k,b)::r,h=>by
  simp only[zM,Yk] at h;simp only[ZP,Yr,not_or];refine⟨?_,A9 h.2⟩;intro e;subst e;simp at h
theorem fY:∀{m:aQ},oD m=true->(m.map (·.1)).Nodup
 | [],h=>by simp
 | (k,b)::r,h=>by
  simp only[oD,Yk] at h;simp only[ZP,Za];exact⟨A9 h.1,fY h.2⟩
theorem B7{B n:Nat}:∀{σ:List (Nat × Nat)},wJ B n σ=true->∀id id',lk σ id=some id'->(id'<B->id'=id)/\id'<n:=by
 intro σ h id id' hl;have hmem:=bV hl;clear hl
 induction σ with
 | nil=>cases hmem
 | cons p r ih=>
  obtain⟨i,j⟩:=p;simp only[wJ,Yk,Zy] at h;rcases Yr.1 hmem with e|hmem
  ·cases e;refine⟨fun hb=>?_,Yq h.1.2⟩;rcases h.1.1 with h1|h1
   ·have a2:=Yq h1;omega
   ·exact(Nat.eq_of_beq_eq_true h1).symm
  ·exact ih h.2 hmem
theorem aE{B:Nat}{sl sl':List (Nat × AV)}{mem':aQ}{nx nx' nt:Nat}(σ:List (Nat × Nat))(hc:(n9 σ && (oD mem' && (wJ B nx' σ && Nat.ble B nx')))=true)(hm:dV mem σ mem')(h:Bi mem σ sl sl') :
  Conv B σ ⟨sl,mem,nx,nt⟩ ⟨sl',mem',nx',nt⟩:=by
 simp only[Yk] at hc;exact⟨rfl,fun i v' hi=>h.get i v' hi,hm.cvm,fY hc.2.1,qT hc.1,B7 hc.2.2.1,Yq hc.2.2.2⟩
theorem bF{B:Nat}{Q:AV->aQ->Nat->Prop}{r r':AV}{m':aQ}{n n':Nat}(σ:List (Nat × Nat))(hc:(n9 σ && (oD m' && (wJ B n' σ && Nat.ble B n')))=true)(hm:dV mem σ m')(hr:Cv mem σ r r')(hq:Q r' m' n'):qE B Q r mem n:=by
 simp only[Yk] at hc;exact .mk σ r' m' n' ⟨hr,hm.cvm,fY hc.2.1,qT hc.1,B7 hc.2.2.1,Yq hc.2.2.2⟩ hq
end
theorem vW:∀{m:aQ} {id:Nat} {p:Nat × AB},p∈m->p.1≠id->p∈drop id m
 | (k,u)::r,id,p,hp,hne=>by
  simp only[drop];rcases Yr.1 hp with rfl|hp
  ·rw[oL hne];exact Y7 ..
  ·split
   ·exact hp
   ·exact Yx _ (vW hp hne)
theorem aF.use1{P:Program}{Γ:List (Nat × AV)}{F:FuncId}{as args:List AV}{mem:aQ}{nx:Nat}{t:TypeId}{sz:Nat}{xs:List AV}{Qs K:AV->aQ->Nat->Prop}(hΓ:∀p∈Γ,NN p.2)
  (h:aF P Γ F as [(0,.row t sz xs)] 1 Qs) (g:Nat) (hg:lk mem g=some (.row t sz xs)) (hx:kI xs) (hargs:iB [(g,.row t sz xs)] [(g,0)] args as)
  (hk:∀r m n,Qs r m n->∃xs',m=[(0,.row t sz xs')]/\NN r/\kI xs'/\F7 g mem fun rest=>K r ((g,.row t sz xs')::rest) nx):aF P Γ F args mem nx K:=by
 refine⟨fun X D ρ w vs hD hm hv=>?_⟩;refine(aF.use (K:=K) (nx:=nx) hΓ h [(g,0)] (m1:=[(g,.row t sz xs)]) (rest:=drop g mem) ⟨fun p hp=>?_,fun p hp=>dJ hp,fun p hp=>?_,fun p hp q hq=>?_,by simp⟩ (mC hm.nod) hargs (fun p hp=>?_) (by simp) (qT (by rfl)) (fun id i hl=>?_) ?_).run X D ρ w vs hD hm hv
 ·simp at hp;subst hp;exact bV hg
 ·by_cases hpg:p.1=g
  ·left;have:=uH hm.nod hp (bV hg) hpg;rw[this];simp
  ·exact .inr (vW hp hpg)
 ·simp at hp;subst hp;exact Ne.symm (uJ hm.nod hq)
 ·simp at hp;subst hp;exact .inl ⟨g,t,sz,xs,xs,rfl,by simp[lk],by simp[lk],.same hx⟩
 ·have:=bV hl;simp at this;omega
 ·intro r m n hq hn;obtain⟨xs',rfl,h1,h2,h3⟩:=hk r m n hq;refine⟨[(0,g)],r,[(g,.row t sz xs')],nx,Yy _,.same r h1,fun p hp=>?_,by simp,qT (by rfl),fun i id hl=>?_,fun p hp q hq=>?_,xX.1 h3⟩
  ·simp at hp;subst hp;exact .inl ⟨0,t,sz,xs',xs',rfl,by simp[lk],by simp[lk],.same h2⟩
  ·have:=bV hl;simp at this;obtain⟨rfl,rfl⟩:=this;exact .inl ⟨by omega,by simp[lk]⟩
  ·simp at hp;subst hp;exact Ne.symm (uJ hm.nod hq)
mutual
def cN:aR->AV
 | .mk k n s kids=>.agg [.int .i64 k,.int .i64 n,.str s,.il 4 (aU kids)]
def aU:List aR->List AV
 | []=>[]
 | v::r=>cN v::aU r
end
theorem jD:∀l:List aR,aU l=l.map cN
 | []=>by simp[aU]
 | v::r=>by simp[aU,jD r]
mutual
theorem dC:∀v:aR,NN (cN v)
 | .mk k n s kids=>by
  simp only[cN];exact .agg' (.cons (.int _ _) (.cons (.int _ _) (.cons (.str _) (.cons (.il' (bI kids)) .nil))))
theorem bI:∀l:List aR,kI (aU l)
 | []=>by simp only[aU];exact .nil
 | v::r=>by simp only[aU];exact .cons (dC v) (bI r)
end
def i64(n:Int):Prop:=-9223372036854775808<=n/\n<=9223372036854775807
mutual
def g9:aR->Prop
 | .mk k n s kids=>i64 k/\i64 n/\s.length<=4294967296/\kids.length<=4294967296/\rE kids
def rE:List aR->Prop
 | []=>True
 | v::r=>g9 v/\rE r
end
theorem kA:∀{l:List aR},rE l->∀v∈l,g9 v
 | [],_,v,h=>by cases h
 | a::r,h,v,hv=>by
  simp only[rE] at h;rcases Yr.1 hv with rfl|hv
  ·exact h.1
  ·exact kA h.2 v hv
theorem qZ:∀{l:List aR},(∀v∈l,g9 v)->rE l
 | [],_=>by simp[rE]
 | a::r,h=>by simp only[rE];exact⟨h a (Y7 ..),qZ fun v hv=>h v (Yx _ hv)⟩
theorem bA{n:Int}(h:i64 n):IntKind.i64.wrap n=n:=IntWalk.i64_in n h
def bH(l:List Int):List AV:=l.map (AV.int .i64)
theorem bE(l:List Int):kI (bH l):=fun a ha=>by
 obtain⟨n,_,rfl⟩:=ZF.1 ha;exact .int _ _
theorem bU(l:List Int)(i:Nat):(bH l)[i]? = (l[i]?).map (AV.int .i64):=by rw[bH,ZO]
theorem aI(l:List Int):(bH l).length=l.length:=by rw[bH,aAn]
theorem jE(l:List aR)(i:Nat):(aU l)[i]? = (l[i]?).map cN:=by rw[jD,ZO]
theorem aC(l:List aR):(aU l).length=l.length:=by rw[jD,aAn]
end Go.Ax
namespace Go.Ax
open Go
theorem AX:∀(x y:List UInt8),Op.bytesLess x y=decide (kZ x y<0)
 | [],[]=>rfl
 | [],_::_=>rfl
 | _::_,[]=>rfl
 | a::x,b::y=>by
  simp only[Op.bytesLess,kZ,AX x y];by_cases h:a<b
  ·simp[h]
  ·by_cases h':b<a
   ·have hne:¬a=b:=by rintro rfl;exact h h'
    simp[h,h',hne]
   ·have he:a=b:=by
     rw[←UInt8.toNat_inj];simp only[UInt8.lt_iff_toNat_lt] at h h';omega
    subst he;simp[h]
theorem uE:∀(x y:List UInt8),kZ x y = -1∨kZ x y=0∨kZ x y=1
 | [],[]=>by simp[kZ]
 | [],_::_=>by simp[kZ]
 | _::_,[]=>by simp[kZ]
 | a::x,b::y=>by
  simp only[kZ];split
  ·simp
  ·split
   ·simp
   ·exact uE x y
theorem p7:∀{x y:List UInt8},kZ x y=0->x=y
 | [],[],_=>rfl
 | [],_::_,h=>by simp[kZ] at h
 | _::_,[],h=>by simp[kZ] at h
 | a::x,b::y,h=>by
  simp only[kZ] at h;split at h
  ·cases h
  ·split at h
   ·cases h
   ·rename_i h1 h2;have he:a=b:=by
     rw[←UInt8.toNat_inj];simp only[UInt8.lt_iff_toNat_lt] at h1 h2;omega
    rw[he,p7 h]
theorem GB{x y:List UInt8}:Op.bytesLess x y=true↔kZ x y = -1:=by
 rw[AX];have:=uE x y;simp;omega
theorem OQ{x y:List UInt8}(h:Op.bytesLess x y=false)(h':(!(Op.bytesLess x y || x == y))=true):kZ x y=1:=by
 rw[h] at h';simp at h';rw[AX] at h;simp at h;have:=uE x y;rcases this with e|e|e
 ·omega
 ·exact absurd (p7 e) h'
 ·exact e
theorem Na{x y:List UInt8}(h:Op.bytesLess x y=false)(h':(!(Op.bytesLess x y || x == y))=false):kZ x y=0:=by
 rw[h] at h';simp at h';subst h';exact(sG x).refl
section
variable {ka na:Int} {sa:List UInt8} {ksa:List aR} {kb nb:Int} {sb:List UInt8} {ksb:List aR}
theorem Gu{a b:Int}(h:a≠b):uZ a b=if a<b then -1 else 1:=by
 unfold uZ;split
 ·rfl
 ·rw[Yt (by omega)]
theorem xZ{a b:Int}(h:a≠b):uZ a b≠0:=by
 rw[Gu h];split<;>decide
theorem OR(h:ka≠kb):cE (.mk ka na sa ksa) (.mk kb nb sb ksb)=if ka<kb then -1 else 1:=by
 rw[cE,andThen,Yo (xZ h),Gu h]
theorem Pg(h:ka=kb)(h2:na≠nb):cE (.mk ka na sa ksa) (.mk kb nb sb ksb)=if na<nb then -1 else 1:=by
 rw[cE,andThen,Yt (by rw[h];exact(mL kb).refl),andThen,Yo (xZ h2),Gu h2]
theorem Uq(h:ka=kb)(h2:na=nb)(h3:sa≠sb):cE (.mk ka na sa ksa) (.mk kb nb sb ksb)=if Op.bytesLess sa sb=true then -1 else 1:=by
 rw[cE,andThen,Yt (by rw[h];exact(mL kb).refl),andThen,Yt (by rw[h2];exact(mL nb).refl),andThen,Yo (fun e=>h3 (p7 e))];rcases uE sa sb with e|e|e
 ·rw[Yt (GB.2 e),e]
 ·exact absurd (p7 e) h3
 ·have:¬Op.bytesLess sa sb=true:=by rw[AX,e];simp
  rw[Yo this,e]
theorem UW(h:ka=kb)(h2:na=nb)(h3:sa=sb):cE (.mk ka na sa ksa) (.mk kb nb sb ksb)=gP ksa ksb:=by
 rw[cE,andThen,Yt (by rw[h];exact(mL kb).refl),andThen,Yt (by rw[h2];exact(mL nb).refl),andThen,Yt (by rw[h3];exact(sG sb).refl)]
end
theorem GI{l1 l2:List aR}{k:Nat}(h1:k<l1.length)(h2:k<l2.length):gP (l1.drop k) (l2.drop k)=andThen (cE l1[k] l2[k]) (gP (l1.drop (k+1)) (l2.drop (k+1))):=by
 rw[List.drop_eq_getElem_cons h1,List.drop_eq_getElem_cons h2,gP]
theorem Hc{l:List aR}{k:Nat}(h:k<l.length):(aU l)[(k:Int).toNat]? = some (cN l[k]):=by
 rw[Yl,jE,Yj h];rfl
end Go.Ax
namespace Go.Ax
open Go
def kL:List aR->aR->Nat × Bool
 | [],_=>(0,false)
 | a::r,v=>if 0<=cE a v then(0,cE a v == 0) else((kL r v).1+1,(kL r v).2)
def JM(l:List aR)(k:Nat)(v:aR):Bool:=
 match l[k]? with
 | some a=>cE a v == 0
 | none=>false
theorem DB:∀{l:List aR} {v:aR} {k:Nat},k<=l.length->(∀p a,p<k->l[p]? = some a->cE a v<0)->(∀a,l[k]? = some a->0<=cE a v)->kL l v=(k,JM l k v)
 | [],v,k,hk,h1,h2=>by
  have:k=0:=by simpa using hk
  subst this;simp[kL,JM]
 | a::r,v,0,hk,h1,h2=>by
  have:=h2 a (by simp);simp[kL,this,JM]
 | a::r,v,k+1,hk,h1,h2=>by
  have h0:=h1 0 a (by omega) (by simp);have ih:=DB (l:=r) (v:=v) (k:=k) (by simpa using hk) (fun p b hp hb=>h1 (p+1) b (by omega) (by simpa using hb)) (fun b hb=>h2 b (by simpa using hb));rw[kL,Yo (by omega),ih];simp[JM]
theorem DR:∀(l:List aR) (v:aR),(kL l v).1<=l.length
 | [],v=>by simp[kL]
 | a::r,v=>by
  simp only[kL];split
  ·simp
  ·have:=DR r v;simp;omega
def x9(out:List aR)(v:aR):List aR:=if (kL out v).2 then out else out.take (kL out v).1++v::out.drop (kL out v).1
def fO(l:List aR):List aR:=l.foldl x9 []
theorem qC(l:List aR)(v:aR):fO (l++[v])=x9 (fO l) v:=by simp[fO]
theorem Ip{out:List aR}{v x:aR}(h:x∈x9 out v):x=v∨x∈out:=by
 unfold x9 at h;split at h
 ·exact .inr h
 ·rcases Yz.1 h with h|h
  ·exact .inr (ZG h)
  ·rcases Yr.1 h with h|h
   ·exact .inl h
   ·exact .inr (ZV h)
theorem Jg(out:List aR)(v:aR):(x9 out v).length<=out.length+1:=by
 unfold x9;split
 ·omega
 ·simp only[Y1,ZH,ZT,aAi];have:=DR out v;omega
theorem sU:∀l:List aR,(fO l).length<=l.length:=by
 intro l;rw[←List.reverse_reverse l];generalize l.reverse=r
 induction r with
 | nil=>simp[fO]
 | cons a r ih=>
  rw[aAA,qC];have:=Jg (fO r.reverse) a;simp only[Y1,Zf];omega
theorem r9{l:List aR}{x:aR}:x∈fO l->x∈l:=by
 rw[←List.reverse_reverse l];generalize l.reverse=r
 induction r with
 | nil=>simp[fO]
 | cons a r ih=>
  rw[aAA,qC];intro h;rcases Ip h with rfl|h
  ·simp
  ·exact ZM _ (ih h)
theorem JD{a b c:aR}(h1:cE a b<0)(h2:cE b c<=0):cE a c<0:=by
 have g:=pW a;have t:=g.trans b c (by omega) h2;rcases Int.lt_or_eq_of_le t with h|h
 ·exact h
 ·have:=(g.strict b c (by omega) h2 h).1;omega
theorem MN{a b:aR}(h:0<cE a b):cE b a<0:=by rw[(pW a).anti b];omega
def oP(l:List aR):Prop:=l.Pairwise fun a b=>cE a b<0
theorem Fo(a:aR)(r:List aR)(v:aR):x9 (a::r) v=if 0<=cE a v then(if cE a v == 0 then a::r else v::a::r) else a::x9 r v:=by
 unfold x9;by_cases h:0<=cE a v
 ·simp only[kL,Yt h];rfl
 ·simp only[kL,Yo h];split<;>simp_all
theorem JE:∀{l:List aR} {v:aR},oP l->oP (x9 l v)
 | [],v,_=>by simp[x9,kL,oP]
 | a::r,v,h=>by
  unfold oP at h ⊢;rw[ZW] at h;rw[Fo];split
  ·rename_i h0;split
   ·exact ZW.2 h
   ·rename_i h1;have h1:cE a v≠0:=by simpa using h1
    have hva:=MN (show 0<cE a v by omega);refine ZW.2 ⟨fun b hb=>?_,ZW.2 h⟩;rcases Yr.1 hb with rfl|hb
    ·exact hva
    ·exact JD hva (by have:=h.1 b hb;omega)
  ·rename_i h0;refine ZW.2 ⟨fun b hb=>?_,JE (l:=r) h.2⟩;rcases Ip hb with rfl|hb
   ·omega
   ·exact h.1 b hb
theorem xO:∀l:List aR,oP (fO l):=by
 intro l;rw[←List.reverse_reverse l];generalize l.reverse=r
 induction r with
 | nil=>simp[fO,oP]
 | cons a r ih=>rw[aAA,qC];exact JE ih
theorem oP.get{l:List aR}(h:oP l){i j:Nat}{a b:aR}(hij:i<j)(ha:l[i]? = some a)(hb:l[j]? = some b):cE a b<0:=by
 obtain⟨hi,rfl⟩:=Yn.1 ha;obtain⟨hj,rfl⟩:=Yn.1 hb;exact List.pairwise_iff_getElem.1 h i j hi hj hij
def Jx:aR->Int
 | .mk k _ _ _=>k
def KZ:aR->Int
 | .mk _ n _ _=>n
end Go.Ax
