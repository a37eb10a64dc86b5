/- A part of the proof. -/
import Derived.Test.YtobknjmfgjaehaaGreatDoorAx6
import Derived.IntWalk
set_option linter.unusedVariables false
set_option linter.unusedSimpArgs false
set_option linter.unusedSectionVars false
namespace Go.Ax
open Go
def iW(l:List AV):Prop:=∀a∈l,NN a
theorem iW.get{l:List AV}(h:iW l)(j:Nat)(c:AV)(hc:l[j]? = some c):NN c:=h c (List.mem_of_getElem? hc)
theorem iW.nil:iW []:=fun a h=>by cases h
theorem iW.cons{a:AV}{l:List AV}(h:NN a)(hl:iW l):iW (a::l):=fun b hb=>by
 rcases List.mem_cons.1 hb with rfl|hb
 ·exact h
 ·exact hl b hb
theorem NN.agg'{cs:List AV}(h:iW cs):NN (.agg cs):=.agg cs h.get
theorem NN.tup'{cs:List AV}(h:iW cs):NN (.tup cs):=.tup cs h.get
theorem NN.cells{v:AV}(h:NN v):iW v.cells:=by
 cases v with
 | agg cs=>cases h with|agg _ hn=>intro a ha;obtain⟨j,hj⟩:=List.getElem?_of_mem ha;exact hn j a hj
 | _=>intro a ha;simp[AV.cells] at ha;subst ha;exact h
theorem NN.il'{sz:Nat}{xs:List AV}(h:iW xs):NN (.il sz xs):=.il sz xs fun i x j c hi hj=>(h.get i x hi).cells.get j c hj
theorem NN.ip'{v:AV}(h:NN v):NN (.ip v):=.ip v fun j c hj=>h.cells.get j c hj
def a8(P:Program)(Γ:List (Nat × AV))(F:FuncId)(args:List AV)(r:AV):Prop:=aG P Γ F args [] 0 fun r' m n=>r'=r/\m=[]/\n=0
section
variable {P:Program} {Γ:List (Nat × AV)} {F:FuncId} {args:List AV} {r:AV} {mem:aN} {nx:Nat} {K:AV->aN->Nat->Prop}
theorem Aq{mem:aN}{σ:List (Nat × Nat)}(ha:iW args):jL mem σ args args:=
 ⟨rfl,fun j c c' h1 h2=>by rw[h1] at h2;cases h2;exact .same c (ha.get j c h1)⟩
theorem aG.call0{Qs:AV->aN->Nat->Prop}(hΓ:∀p∈Γ,NN p.2)(h:aG P Γ F args [] 0 Qs)(ha:iW args)
  (hk:∀r m n,Qs r m n->∃r',Cv m [] r r'/\K r' mem nx):aG P Γ F args mem nx K:=by
 refine⟨fun X D ρ w vs hD hm hv=>?_⟩;refine(aG.use (K:=K) (nx:=nx) hΓ h [] (m1:=[]) (rest:=mem) ⟨(fun p hp=>by cases hp),fun p hp=>hp,fun p hp=>.inr hp,(fun p hp=>by cases hp),by simp⟩ hm.nod (Aq ha) (fun p hp=>by cases hp) (by simp) (fun i j k h=>by simp[lk] at h) (fun id i h=>by simp[lk] at h) ?_).run X D ρ w vs hD hm hv;intro r m n hq _;obtain⟨r',h1,h2⟩:=hk r m n hq;exact⟨[],r',[],nx,Nat.le_refl _,h1,(fun p hp=>by cases hp),by simp,(fun i j k h=>by simp[lk] at h),(fun i id h=>by simp[lk] at h),(fun p hp=>by cases hp),h2⟩
theorem a8.use(h:a8 P Γ F args r)(hΓ:∀p∈Γ,NN p.2)(ha:iW args)(hr:NN r)(hk:K r mem nx):aG P Γ F args mem nx K:=
 aG.call0 hΓ h ha fun r' m n ⟨e1,e2,e3⟩=>⟨r,by rw[e1];exact .same r hr,hk⟩
theorem a8.lend{as:List AV}(h:a8 P Γ F as r)(hΓ:∀p∈Γ,NN p.2)(ha:jL mem [] args as)(hr:Sc r)(hk:K r mem nx):aG P Γ F args mem nx K:=
 aG.lend hΓ h ha fun r' m n ⟨e1,e2,e3⟩=>⟨by rw[e1];exact hr,by rw[e1];exact hk⟩
theorem a8.drop{as:List AV}(h:a8 P Γ F as r)(hΓ:∀p∈Γ,NN p.2)(ha:jL mem [] args as)(hr:NN r)(hk:K r [] nx):aG P Γ F args mem nx K:=by
 refine⟨fun X D ρ w vs hD hm hv=>?_⟩;refine(aG.use (K:=K) (nx:=nx) hΓ h [] (m1:=mem) (rest:=[]) ⟨fun p hp=>hp,(fun p hp=>by cases hp),fun p hp=>.inl hp,(fun p _ q hq=>by cases hq),hm.nod⟩ (by simp) ha (fun p hp=>by cases hp) (by simp) (fun i j k h=>by simp[lk] at h) (fun id i h=>by simp[lk] at h) ?_).run X D ρ w vs hD hm hv;rintro r' m n ⟨rfl,rfl,rfl⟩ _;exact⟨[],r',[],nx,Nat.le_refl _,.same r' hr,(fun p hp=>by cases hp),by simp,(fun i j k h=>by simp[lk] at h),(fun i id h=>by simp[lk] at h),(fun p hp=>by cases hp),hk⟩
theorem a8.useC{as:List AV}(h:a8 P Γ F as r)(hΓ:∀p∈Γ,NN p.2)(ha:jL [] [] args as)(hr:NN r)(hk:K r mem nx):aG P Γ F args mem nx K:=by
 refine⟨fun X D ρ w vs hD hm hv=>?_⟩;refine(aG.use (K:=K) (nx:=nx) hΓ h [] (m1:=[]) (rest:=mem) ⟨(fun p hp=>by cases hp),fun p hp=>hp,fun p hp=>.inr hp,(fun p hp=>by cases hp),by simp⟩ hm.nod ha (fun p hp=>by cases hp) (by simp) (fun i j k h=>by simp[lk] at h) (fun id i h=>by simp[lk] at h) ?_).run X D ρ w vs hD hm hv;rintro r' m n ⟨rfl,rfl,rfl⟩ _;exact⟨[],r',[],nx,Nat.le_refl _,.same r' hr,(fun p hp=>by cases hp),by simp,(fun i j k h=>by simp[lk] at h),(fun i id h=>by simp[lk] at h),(fun p hp=>by cases hp),hk⟩
theorem aB{Q:AV->aN->Nat->Prop}{m:aN}{n:Nat}(hr:NN r)(hq:Q r [] 0):kQ 0 Q r m n:=
 ⟨[],r,[],0,⟨.same r hr,(fun p hp=>by cases hp),by simp,(fun i j k h=>by simp[lk] at h),(fun id i h=>by simp[lk] at h),Nat.le_refl _⟩,hq⟩
theorem bU{Q:AV->aN->Nat->Prop}{m:aN}{n:Nat}{r':AV}(hr:Cv m [] r r')(hq:Q r' [] 0):kQ 0 Q r m n:=
 ⟨[],r',[],0,⟨hr,(fun p hp=>by cases hp),by simp,(fun i j k h=>by simp[lk] at h),(fun id i h=>by simp[lk] at h),Nat.le_refl _⟩,hq⟩
theorem bG:∀p∈([]:List (Nat × AV)),NN p.2:=fun p hp=>by cases hp
end
inductive D5 {α:Type} (B:Nat) (R:α->Prop) (I:α->St) (μ:α->Nat) (x:α) (s:St):Prop
 | mk (y:α) (σ:List (Nat × Nat)):R y->Conv B σ s (I y)->μ y<μ x->D5 B R I μ x s
theorem dI.loopAt{P:Program}{Γ:List (Nat × AV)}{B:Nat}{c:Code}{s:St}{Q:Exit->St->Prop}{α:Type}(hΓ:∀p∈Γ,NN p.2)(R:α->Prop)(I:α->St)(μ:α->Nat)(x:α)(σ:List (Nat × Nat))(hx:R x)(h0:Conv B σ s (I x))
  (h:∀x,R x->vJ false P Γ (CO P Γ B) c (I x) fun e s=>match e with
   | .normal=>D5 B R I μ x s
   | e=>Q e s):dI P Γ B (.loop c) s Q:=by
 refine dI.conv hΓ h0 ?_;refine dI.loop (α:={ x:α // R x }) hΓ (fun x=>I x.1) (fun x=>μ x.1) (fun x=>?_) ⟨x,hx⟩;refine(dS qH c _ _ (h x.1 x.2)).mono fun e s h=>?_
 cases e with
 | normal=>
  obtain⟨y,σ,hy,hc,hlt⟩:=(show D5 B R I μ x.1 s from h)
  exact⟨⟨y,hy⟩,σ,hc,hlt⟩
 | exit i=>exact h
 | goto l=>exact h
 | ret=>exact h
 | panic c=>exact h
 | outgrown=>exact h
theorem Pk{l h m n:Nat}(h1:l<=h)(h2:h<=m)(h3:m<=n):(Nat.ble l h && (Nat.ble h m && Nat.ble m n))=true:=by
 rw[Nat.ble_eq_true_of_le h1,Nat.ble_eq_true_of_le h2,Nat.ble_eq_true_of_le h3];rfl
theorem Fy{a n m:Nat}(h:n<=m):(Nat.beq a a && Nat.ble n m)=true:=by
 rw[Nat.ble_eq_true_of_le h];simp
theorem bV{e sz size bytes len n k:Nat}(h1:Nat.beq sz size=true)(hb:Nat.ble bytes 4096=true)(h2:len=n)(h3:len+k<=34359738368) :
  (Nat.beq e e && (Nat.beq sz size && (Nat.beq len n && (Nat.ble ((len+k)*bytes) 140737488355328 && Nat.ble (len+k) 9223372036854775807))))=true:=by
 have hb:=Nat.le_of_ble_eq_true hb;have hm:(len+k)*bytes<=34359738368*4096:=Nat.mul_le_mul h3 hb;rw[h1,h2,Nat.ble_eq_true_of_le (by rw[h2] at hm;omega),Nat.ble_eq_true_of_le om];simp
theorem zY{bytes k:Nat}(hb:Nat.ble bytes 4096=true)(h3:k<=34359738368):(Nat.ble (k*bytes) 140737488355328 && Nat.ble k 9223372036854775807)=true:=by
 have hb:=Nat.le_of_ble_eq_true hb;have hm:k*bytes<=34359738368*4096:=Nat.mul_le_mul h3 hb;rw[Nat.ble_eq_true_of_le om,Nat.ble_eq_true_of_le om];rfl
def yE(mem:aN)(σ:List (Nat × Nat))(sl:List (Nat × AV)):List (Nat × AV)->Prop
 | []=>True
 | (i,v')::r=>(∃v,lk sl i=some v/\Cv mem σ v v')/\yE mem σ sl r
theorem yE.get{mem:aN}{σ:List (Nat × Nat)}{sl:List (Nat × AV)}:∀{sl':List (Nat × AV)},yE mem σ sl sl'->∀i v',lk sl' i=some v'->∃v,lk sl i=some v/\Cv mem σ v v'
 | [],h,i,v',hi=>by simp[lk] at hi
 | (j,u)::r,h,i,v',hi=>by
  simp only[lk] at hi;split at hi
  ·rename_i e;cases hi;rw[←Nat.eq_of_beq_eq_true e];exact h.1
  ·exact yE.get h.2 i v' hi
theorem cL{B:Nat}{sl sl':List (Nat × AV)}{mem:aN}{nx nt:Nat}(h:yE mem [] sl sl'):Conv B [] ⟨sl,mem,nx,nt⟩ ⟨sl',[],B,nt⟩:=
 ⟨rfl,fun i v' hi=>h.get i v' hi,(fun p hp=>by cases hp),by simp,(fun i j k h=>by simp[lk] at h),(fun id i h=>by simp[lk] at h),Nat.le_refl _⟩
theorem Cv.eq{mem:aN}{σ:List (Nat × Nat)}{v v':AV}(hn:NN v')(h:v=v'):Cv mem σ v v':=by rw[h];exact .same v' hn
theorem Cv.slE{mem:aN}{σ:List (Nat × Nat)}{id id' off len len':Nat}(h:lk σ id=some id')(e:len=len'):Cv mem σ (.sl id off len) (.sl id' off len'):=by rw[←e];exact .sl id id' off len h
section
variable {mem:aN} {σ:List (Nat × Nat)}
theorem jL.nil:jL mem σ [] []:=⟨rfl,fun j c c' h=>by simp at h⟩
theorem jL.cons{a b:AV}{as bs:List AV}(h:Cv mem σ a b)(hs:jL mem σ as bs):jL mem σ (a::as) (b::bs):=by
 refine⟨by simp[hs.1],fun j c c' h1 h2=>?_⟩;cases j with
 | zero=>simp at h1 h2;subst h1 h2;exact h
 | succ j=>simp at h1 h2;exact hs.2 j c c' h1 h2
theorem jL.same{l:List AV}(h:iW l):jL mem σ l l:=Aq h
theorem Cv.agg'{cs cs':List AV}(h:jL mem σ cs cs'):Cv mem σ (.agg cs) (.agg cs'):=.agg cs cs' h.1 h.2
theorem Cv.tup'{cs cs':List AV}(h:jL mem σ cs cs'):Cv mem σ (.tup cs) (.tup cs'):=.tup cs cs' h.1 h.2
theorem GJ.same{x:AV}(h:NN x):GJ mem σ x x:=⟨rfl,(jL.same h.cells).2⟩
theorem GJ.agg{cs cs':List AV}(h:jL mem σ cs cs'):GJ mem σ (.agg cs) (.agg cs'):=h
theorem GJ.one{x y:AV}(hx:x.cells=[x])(hy:y.cells=[y])(h:Cv mem σ x y):GJ mem σ x y:=by
 unfold GJ;rw[hx,hy];exact jL.cons h .nil
theorem qS.same{xs:List AV}(h:iW xs):qS mem σ xs xs:=
 ⟨Nat.le_refl _,fun i x y h1 h2=>by rw[h1] at h2;cases h2;exact .same (h.get i x h1)⟩
theorem qS.nil{xs:List AV}:qS mem σ xs []:=⟨by simp,fun i x y h1 h2=>by simp at h2⟩
theorem qS.cons{x y:AV}{xs ys:List AV}(h:GJ mem σ x y)(hs:qS mem σ xs ys):qS mem σ (x::xs) (y::ys):=by
 refine⟨by simp[hs.1],fun i a b h1 h2=>?_⟩;cases i with
 | zero=>simp at h1 h2;subst h1 h2;exact h
 | succ i=>simp at h1 h2;exact hs.2 i a b h1 h2
theorem qS.snoc{xs ys:List AV}{x y:AV}(hl:xs.length=ys.length)(hs:qS mem σ xs ys)(h:GJ mem σ x y):qS mem σ (xs++[x]) (ys++[y]):=by
 refine⟨by simp[hl],fun i a b h1 h2=>?_⟩;rcases Nat.lt_or_ge i xs.length with hi|hi
 ·rw[List.getElem?_append_left hi] at h1;rw[List.getElem?_append_left om] at h2;exact hs.2 i a b h1 h2
 ·rw[List.getElem?_append_right hi] at h1;rw[List.getElem?_append_right om,←hl] at h2;generalize i-xs.length=q at h1 h2;cases q with
  | zero=>simp at h1 h2;subst h1 h2;exact h
  | succ q=>simp at h1
theorem qS.to{xs xs' ys:List AV}(h:qS mem σ xs ys)(e:xs'=xs):qS mem σ xs' ys:=by rw[e];exact h
theorem qS.eq{xs ys:List AV}(h:iW ys)(e:xs=ys):qS mem σ xs ys:=by rw[e];exact .same h
theorem Cv.fz'{id off len:Nat}{t:TypeId}{sz:Nat}{xs ys:List AV}(h1:lk mem id=some (.row t sz xs))(h2:lk σ id=none)(h3:off+len<=xs.length)(h4:(xs.drop off).take len=ys)(h5:iW ys):Cv mem σ (.sl id off len) (.il sz ys):=by
 have hg:∀(i:Nat) (x y:AV),xs[off+i]? = some x->ys[i]? = some y->x=y:=by
  intro i x y hx hy;rw[←h4,List.getElem?_take] at hy;split at hy
  ·rw[List.getElem?_drop,hx] at hy;exact Option.some.inj hy
  ·cases hy
 refine .fz id off len t sz xs ys h1 h2 h3 (by rw[←h4];simp;omega) (fun i x y hx hy=>by rw[hg i x y hx hy]) (fun i x y j c c' hx hy hc hc'=>?_);rw[hg i x y hx hy] at hc;rw[hc] at hc';cases hc';exact .same c ((h5.get i y hy).cells.get j c hc)
def cM(mem:aN)(σ:List (Nat × Nat)):aN->Prop
 | []=>True
 | (id',b)::r=>(match b with
   | .row t sz ys=>∃id xs,lk σ id=some id'/\lk mem id=some (.row t sz xs)/\qS mem σ xs ys
   | .mapb es'=>∃id es,lk σ id=some id'/\lk mem id=some (.mapb es)/\Qd mem σ es es'
   | .loop sl' nt ps ca cb st pd=>∃id sl,lk σ id=some id'/\lk mem id=some (.loop sl nt ps ca cb st pd)/\Qe mem σ sl sl'
   | .iter1 _ _=>False)/\cM mem σ r
theorem cM.cvm:∀{mem':aN},cM mem σ mem'->K7 mem σ mem'
 | [],h=>fun p hp=>by cases hp
 | (id',b)::r,h=>fun p hp=>by
  rcases List.mem_cons.1 hp with rfl|hp
  ·have h1:=h.1;cases b with
   | row t sz ys=>
    obtain⟨id,xs,e1,e2,e3⟩:=h1;exact .inl ⟨id,t,sz,xs,ys,rfl,e1,e2,e3⟩
   | mapb es'=>
    obtain⟨id,es,e1,e2,e3⟩:=h1;exact .inr (.inl ⟨id,es,es',rfl,e1,e2,e3⟩)
   | loop sl' nt ps ca cb st pd=>
    obtain⟨id,sl,e1,e2,e3⟩:=h1;exact .inr (.inr ⟨id,sl,sl',nt,ps,ca,cb,st,pd,rfl,e1,e2,e3⟩)
   | iter1 _ _=>exact False.elim h1
  ·exact cM.cvm h.2 p hp
def Cf(n:Nat):List (Nat × Nat)->Bool
 | []=>true
 | (_,m)::r=>!Nat.beq m n && Cf n r
def lC:List (Nat × Nat)->Bool
 | []=>true
 | (_,m)::r=>Cf m r && lC r
def xL(n:Nat):aN->Bool
 | []=>true
 | (m,_)::r=>!Nat.beq m n && xL n r
def kW:aN->Bool
 | []=>true
 | (m,_)::r=>xL m r && kW r
def xG(B n:Nat):List (Nat × Nat)->Bool
 | []=>true
 | (i,j)::r=>((Nat.ble B j || Nat.beq i j) && Nat.blt j n) && xG B n r
theorem nR:∀{n:Nat} {σ:List (Nat × Nat)},Cf n σ=true->∀p∈σ,p.2≠n
 | n,[],h,p,hp=>by cases hp
 | n,(i,m)::r,h,p,hp=>by
  simp only[Cf,Bool.and_eq_true] at h;rcases List.mem_cons.1 hp with rfl|hp
  ·intro e;simp only at e;subst e;simp at h
  ·exact nR h.2 p hp
theorem Et:∀{σ:List (Nat × Nat)},lC σ=true->∀p∈σ,∀q∈σ,p.2=q.2->p=q
 | [],h,p,hp=>by cases hp
 | (i,m)::r,h,p,hp=>by
  simp only[lC,Bool.and_eq_true] at h;intro q hq e;rcases List.mem_cons.1 hp with rfl|hp<;>rcases List.mem_cons.1 hq with rfl|hq
  ·rfl
  ·exact absurd e.symm (nR h.1 q hq)
  ·exact absurd e (nR h.1 p hp)
  ·exact Et h.2 p hp q hq e
theorem kA{σ:List (Nat × Nat)}(h:lC σ=true):Gx σ:=fun i j k h1 h2=>by
 have:=Et h _ (bA h1) _ (bA h2) rfl;exact congrArg Prod.fst this
theorem vX:∀{n:Nat} {m:aN},xL n m=true->n∉m.map (·.1)
 | n,[],h=>by simp
 | n,(k,b)::r,h=>by
  simp only[xL,Bool.and_eq_true] at h;simp only[List.map_cons,List.mem_cons,not_or];refine⟨?_,vX h.2⟩;intro e;subst e;simp at h
theorem dE:∀{m:aN},kW m=true->(m.map (·.1)).Nodup
 | [],h=>by simp
 | (k,b)::r,h=>by
  simp only[kW,Bool.and_eq_true] at h;simp only[List.map_cons,List.nodup_cons];exact⟨vX h.1,dE h.2⟩
theorem yO{B n:Nat}:∀{σ:List (Nat × Nat)},xG B n σ=true->∀id id',lk σ id=some id'->(id'<B->id'=id)/\id'<n:=by
 intro σ h id id' hl;have hmem:=bA hl;clear hl
 induction σ with
 | nil=>cases hmem
 | cons p r ih=>
  obtain⟨i,j⟩:=p;simp only[xG,Bool.and_eq_true,Bool.or_eq_true] at h;rcases List.mem_cons.1 hmem with e|hmem
  ·cases e;refine⟨fun hb=>?_,Nat.le_of_ble_eq_true h.1.2⟩;rcases h.1.1 with h1|h1
   ·have a2:=Nat.le_of_ble_eq_true h1;omega
   ·exact(Nat.eq_of_beq_eq_true h1).symm
  ·exact ih h.2 hmem
theorem aE{B:Nat}{sl sl':List (Nat × AV)}{mem':aN}{nx nx' nt:Nat}(σ:List (Nat × Nat))(hc:(lC σ && (kW mem' && (xG B nx' σ && Nat.ble B nx')))=true)(hm:cM mem σ mem')(h:yE mem σ sl sl') :
  Conv B σ ⟨sl,mem,nx,nt⟩ ⟨sl',mem',nx',nt⟩:=by
 simp only[Bool.and_eq_true] at hc;exact⟨rfl,fun i v' hi=>h.get i v' hi,hm.cvm,dE hc.2.1,kA hc.1,yO hc.2.2.1,Nat.le_of_ble_eq_true hc.2.2.2⟩
theorem bN{B:Nat}{Q:AV->aN->Nat->Prop}{r r':AV}{m':aN}{n n':Nat}(σ:List (Nat × Nat))(hc:(lC σ && (kW m' && (xG B n' σ && Nat.ble B n')))=true)(hm:cM mem σ m')(hr:Cv mem σ r r')(hq:Q r' m' n'):kQ B Q r mem n:=by
 simp only[Bool.and_eq_true] at hc;exact .mk σ r' m' n' ⟨hr,hm.cvm,dE hc.2.1,kA hc.1,yO hc.2.2.1,Nat.le_of_ble_eq_true hc.2.2.2⟩ hq
end
theorem sK:∀{m:aN} {id:Nat} {p:Nat × AB},p∈m->p.1≠id->p∈drop id m
 | (k,u)::r,id,p,hp,hne=>by
  simp only[drop];rcases List.mem_cons.1 hp with rfl|hp
  ·rw[qE hne];exact List.mem_cons_self ..
  ·split
   ·exact hp
   ·exact List.mem_cons_of_mem _ (sK hp hne)
theorem aG.use1{P:Program}{Γ:List (Nat × AV)}{F:FuncId}{as args:List AV}{mem:aN}{nx:Nat}{t:TypeId}{sz:Nat}{xs:List AV}{Qs K:AV->aN->Nat->Prop}(hΓ:∀p∈Γ,NN p.2)
  (h:aG P Γ F as [(0,.row t sz xs)] 1 Qs) (g:Nat) (hg:lk mem g=some (.row t sz xs)) (hx:iW xs) (hargs:jL [(g,.row t sz xs)] [(g,0)] args as)
  (hk:∀r m n,Qs r m n->∃xs',m=[(0,.row t sz xs')]/\NN r/\iW xs'/\CQ g mem fun rest=>K r ((g,.row t sz xs')::rest) nx):aG P Γ F args mem nx K:=by
 refine⟨fun X D ρ w vs hD hm hv=>?_⟩;refine(aG.use (K:=K) (nx:=nx) hΓ h [(g,0)] (m1:=[(g,.row t sz xs)]) (rest:=drop g mem) ⟨fun p hp=>?_,fun p hp=>cV hp,fun p hp=>?_,fun p hp q hq=>?_,by simp⟩ (iQ hm.nod) hargs (fun p hp=>?_) (by simp) (kA (by rfl)) (fun id i hl=>?_) ?_).run X D ρ w vs hD hm hv
 ·simp at hp;subst hp;exact bA hg
 ·by_cases hpg:p.1=g
  ·left;have:=qA hm.nod hp (bA hg) hpg;rw[this];simp
  ·exact .inr (sK hp hpg)
 ·simp at hp;subst hp;exact Ne.symm (pH hm.nod hq)
 ·simp at hp;subst hp;exact .inl ⟨g,t,sz,xs,xs,rfl,by simp[lk],by simp[lk],.same hx⟩
 ·have:=bA hl;simp at this;omega
 ·intro r m n hq hn;obtain⟨xs',rfl,h1,h2,h3⟩:=hk r m n hq;refine⟨[(0,g)],r,[(g,.row t sz xs')],nx,Nat.le_refl _,.same r h1,fun p hp=>?_,by simp,kA (by rfl),fun i id hl=>?_,fun p hp q hq=>?_,s5.1 h3⟩
  ·simp at hp;subst hp;exact .inl ⟨0,t,sz,xs',xs',rfl,by simp[lk],by simp[lk],.same h2⟩
  ·have:=bA hl;simp at this;obtain⟨rfl,rfl⟩:=this;exact .inl ⟨om,by simp[lk]⟩
  ·simp at hp;subst hp;exact Ne.symm (pH hm.nod hq)
mutual
def bK:a7->AV
 | .mk k n s kids=>.agg [.int .i64 k,.int .i64 n,.str s,.il 4 (aO kids)]
def aO:List a7->List AV
 | []=>[]
 | v::r=>bK v::aO r
end
theorem eX:∀l:List a7,aO l=l.map bK
 | []=>by simp[aO]
 | v::r=>by simp[aO,eX r]
mutual
theorem bM:∀v:a7,NN (bK v)
 | .mk k n s kids=>by
  simp only[bK];exact .agg' (.cons (.int _ _) (.cons (.int _ _) (.cons (.str _) (.cons (.il' (aS kids)) .nil))))
theorem aS:∀l:List a7,iW (aO l)
 | []=>by simp only[aO];exact .nil
 | v::r=>by simp only[aO];exact .cons (bM v) (aS r)
end
def i64(n:Int):Prop:=-9223372036854775808<=n/\n<=9223372036854775807
mutual
def gD:a7->Prop
 | .mk k n s kids=>i64 k/\i64 n/\s.length<=4294967296/\kids.length<=4294967296/\uJ kids
def uJ:List a7->Prop
 | []=>True
 | v::r=>gD v/\uJ r
end
theorem nJ:∀{l:List a7},uJ l->∀v∈l,gD v
 | [],_,v,h=>by cases h
 | a::r,h,v,hv=>by
  simp only[uJ] at h;rcases List.mem_cons.1 hv with rfl|hv
  ·exact h.1
  ·exact nJ h.2 v hv
theorem pA:∀{l:List a7},(∀v∈l,gD v)->uJ l
 | [],_=>by simp[uJ]
 | a::r,h=>by simp only[uJ];exact⟨h a (List.mem_cons_self ..),pA fun v hv=>h v (List.mem_cons_of_mem _ hv)⟩
theorem cK{n:Int}(h:i64 n):IntKind.i64.wrap n=n:=IntWalk.i64_in n h
def aT(l:List Int):List AV:=l.map (AV.int .i64)
theorem aQ(l:List Int):iW (aT l):=fun a ha=>by
 obtain⟨n,_,rfl⟩:=List.mem_map.1 ha;exact .int _ _
theorem bF(l:List Int)(i:Nat):(aT l)[i]? = (l[i]?).map (AV.int .i64):=by rw[aT,List.getElem?_map]
theorem aD(l:List Int):(aT l).length=l.length:=by rw[aT,List.length_map]
theorem gK(l:List a7)(i:Nat):(aO l)[i]? = (l[i]?).map bK:=by rw[eX,List.getElem?_map]
theorem aA(l:List a7):(aO l).length=l.length:=by rw[eX,List.length_map]
end Go.Ax
namespace Go.Ax
open Go
theorem w5:∀(x y:List UInt8),Op.bytesLess x y=decide (iL x y<0)
 | [],[]=>rfl
 | [],_::_=>rfl
 | _::_,[]=>rfl
 | a::x,b::y=>by
  simp only[Op.bytesLess,iL,w5 x y];by_cases h:a<b
  ·simp[h]
  ·by_cases h':b<a
   ·have hne:¬a=b:=by rintro rfl;exact h h'
    simp[h,h',hne]
   ·have he:a=b:=by
     rw[←UInt8.toNat_inj];simp only[UInt8.lt_iff_toNat_lt] at h h';omega
    subst he;simp[h]
theorem pY:∀(x y:List UInt8),iL x y = -1∨iL x y=0∨iL x y=1
 | [],[]=>by simp[iL]
 | [],_::_=>by simp[iL]
 | _::_,[]=>by simp[iL]
 | a::x,b::y=>by
  simp only[iL];split
  ·simp
  ·split
   ·simp
   ·exact pY x y
theorem mK:∀{x y:List UInt8},iL x y=0->x=y
 | [],[],_=>rfl
 | [],_::_,h=>by simp[iL] at h
 | _::_,[],h=>by simp[iL] at h
 | a::x,b::y,h=>by
  simp only[iL] at h;split at h
  ·cases h
  ·split at h
   ·cases h
   ·rename_i h1 h2;have he:a=b:=by
     rw[←UInt8.toNat_inj];simp only[UInt8.lt_iff_toNat_lt] at h1 h2;omega
    rw[he,mK h]
theorem Ce{x y:List UInt8}:Op.bytesLess x y=true↔iL x y = -1:=by
 rw[w5];have:=pY x y;simp;omega
theorem IM{x y:List UInt8}(h:Op.bytesLess x y=false)(h':(!(Op.bytesLess x y || x == y))=true):iL x y=1:=by
 rw[h] at h';simp at h';rw[w5] at h;simp at h;have:=pY x y;rcases this with e|e|e
 ·omega
 ·exact absurd (mK e) h'
 ·exact e
theorem IE{x y:List UInt8}(h:Op.bytesLess x y=false)(h':(!(Op.bytesLess x y || x == y))=false):iL x y=0:=by
 rw[h] at h';simp at h';subst h';exact(oQ x).refl
section
variable {ka na:Int} {sa:List UInt8} {ksa:List a7} {kb nb:Int} {sb:List UInt8} {ksb:List a7}
theorem DY{a b:Int}(h:a≠b):oW a b=if a<b then -1 else 1:=by
 unfold oW;split
 ·rfl
 ·rw[if_pos om]
theorem sR{a b:Int}(h:a≠b):oW a b≠0:=by
 rw[DY h];split<;>decide
theorem IU(h:ka≠kb):bW (.mk ka na sa ksa) (.mk kb nb sb ksb)=if ka<kb then -1 else 1:=by
 rw[bW,andThen,if_neg (sR h),DY h]
theorem Jg(h:ka=kb)(h2:na≠nb):bW (.mk ka na sa ksa) (.mk kb nb sb ksb)=if na<nb then -1 else 1:=by
 rw[bW,andThen,if_pos (by rw[h];exact(jA kb).refl),andThen,if_neg (sR h2),DY h2]
theorem N7(h:ka=kb)(h2:na=nb)(h3:sa≠sb):bW (.mk ka na sa ksa) (.mk kb nb sb ksb)=if Op.bytesLess sa sb=true then -1 else 1:=by
 rw[bW,andThen,if_pos (by rw[h];exact(jA kb).refl),andThen,if_pos (by rw[h2];exact(jA nb).refl),andThen,if_neg (fun e=>h3 (mK e))];rcases pY sa sb with e|e|e
 ·rw[if_pos (Ce.2 e),e]
 ·exact absurd (mK e) h3
 ·have:¬Op.bytesLess sa sb=true:=by rw[w5,e];simp
  rw[if_neg this,e]
theorem N0(h:ka=kb)(h2:na=nb)(h3:sa=sb):bW (.mk ka na sa ksa) (.mk kb nb sb ksb)=fC ksa ksb:=by
 rw[bW,andThen,if_pos (by rw[h];exact(jA kb).refl),andThen,if_pos (by rw[h2];exact(jA nb).refl),andThen,if_pos (by rw[h3];exact(oQ sb).refl)]
end
theorem CG{l1 l2:List a7}{k:Nat}(h1:k<l1.length)(h2:k<l2.length):fC (l1.drop k) (l2.drop k)=andThen (bW l1[k] l2[k]) (fC (l1.drop (k+1)) (l2.drop (k+1))):=by
 rw[List.drop_eq_getElem_cons h1,List.drop_eq_getElem_cons h2,fC]
theorem xW{l:List a7}{k:Nat}(h:k<l.length):(aO l)[(k:Int).toNat]? = some (bK l[k]):=by
 rw[Int.toNat_natCast,gK,List.getElem?_eq_getElem h];rfl
end Go.Ax
namespace Go.Ax
open Go
def dL:List a7->a7->Nat × Bool
 | [],_=>(0,false)
 | a::r,v=>if 0<=bW a v then(0,bW a v == 0) else((dL r v).1+1,(dL r v).2)
def DZ(l:List a7)(k:Nat)(v:a7):Bool:=
 match l[k]? with
 | some a=>bW a v == 0
 | none=>false
theorem rH:∀{l:List a7} {v:a7} {k:Nat},k<=l.length->(∀p a,p<k->l[p]? = some a->bW a v<0)->(∀a,l[k]? = some a->0<=bW a v)->dL l v=(k,DZ l k v)
 | [],v,k,hk,h1,h2=>by
  have:k=0:=by simpa using hk
  subst this;simp[dL,DZ]
 | a::r,v,0,hk,h1,h2=>by
  have:=h2 a (by simp);simp[dL,this,DZ]
 | a::r,v,k+1,hk,h1,h2=>by
  have h0:=h1 0 a om (by simp);have ih:=rH (l:=r) (v:=v) (k:=k) (by simpa using hk) (fun p b hp hb=>h1 (p+1) b om (by simpa using hb)) (fun b hb=>h2 b (by simpa using hb));rw[dL,if_neg om,ih];simp[DZ]
theorem v7:∀(l:List a7) (v:a7),(dL l v).1<=l.length
 | [],v=>by simp[dL]
 | a::r,v=>by
  simp only[dL];split
  ·simp
  ·have:=v7 r v;simp;omega
def rQ(out:List a7)(v:a7):List a7:=if (dL out v).2 then out else out.take (dL out v).1++v::out.drop (dL out v).1
def dV(l:List a7):List a7:=l.foldl rQ []
theorem nE(l:List a7)(v:a7):dV (l++[v])=rQ (dV l) v:=by simp[dV]
theorem Ea{out:List a7}{v x:a7}(h:x∈rQ out v):x=v∨x∈out:=by
 unfold rQ at h;split at h
 ·exact .inr h
 ·rcases List.mem_append.1 h with h|h
  ·exact .inr (List.mem_of_mem_take h)
  ·rcases List.mem_cons.1 h with h|h
   ·exact .inl h
   ·exact .inr (List.mem_of_mem_drop h)
theorem Ed(out:List a7)(v:a7):(rQ out v).length<=out.length+1:=by
 unfold rQ;split
 ·omega
 ·simp only[List.length_append,List.length_cons,List.length_take,List.length_drop];have:=v7 out v;omega
theorem pZ:∀l:List a7,(dV l).length<=l.length:=by
 intro l;rw[←List.reverse_reverse l];generalize l.reverse=r
 induction r with
 | nil=>simp[dV]
 | cons a r ih=>
  rw[List.reverse_cons,nE];have:=Ed (dV r.reverse) a;simp only[List.length_append,List.length_singleton];omega
theorem oK{l:List a7}{x:a7}:x∈dV l->x∈l:=by
 rw[←List.reverse_reverse l];generalize l.reverse=r
 induction r with
 | nil=>simp[dV]
 | cons a r ih=>
  rw[List.reverse_cons,nE];intro h;rcases Ea h with rfl|h
  ·simp
  ·exact List.mem_append_left _ (ih h)
theorem Ee{a b c:a7}(h1:bW a b<0)(h2:bW b c<=0):bW a c<0:=by
 have g:=iB a;have t:=g.trans b c om h2;rcases Int.lt_or_eq_of_le t with h|h
 ·exact h
 ·have:=(g.strict b c om h2 h).1;omega
theorem QP{a b c:a7}(h1:bW a b<=0)(h2:bW b c<0):bW a c<0:=by
 have g:=iB a;have t:=g.trans b c h1 om;rcases Int.lt_or_eq_of_le t with h|h
 ·exact h
 ·have:=(g.strict b c h1 om h).2;omega
theorem HV{a b:a7}(h:0<bW a b):bW b a<0:=by rw[(iB a).anti b];omega
def kL(l:List a7):Prop:=l.Pairwise fun a b=>bW a b<0
theorem Bu(a:a7)(r:List a7)(v:a7):rQ (a::r) v=if 0<=bW a v then(if bW a v == 0 then a::r else v::a::r) else a::rQ r v:=by
 unfold rQ;by_cases h:0<=bW a v
 ·simp only[dL,if_pos h];rfl
 ·simp only[dL,if_neg h];split<;>simp_all
theorem FU:∀{l:List a7} {v:a7},kL l->kL (rQ l v)
 | [],v,_=>by simp[rQ,dL,kL]
 | a::r,v,h=>by
  unfold kL at h ⊢;rw[List.pairwise_cons] at h;rw[Bu];split
  ·rename_i h0;split
   ·exact List.pairwise_cons.2 h
   ·rename_i h1;have h1:bW a v≠0:=by simpa using h1
    have hva:=HV (show 0<bW a v by omega);refine List.pairwise_cons.2 ⟨fun b hb=>?_,List.pairwise_cons.2 h⟩;rcases List.mem_cons.1 hb with rfl|hb
    ·exact hva
    ·exact Ee hva (by have:=h.1 b hb;omega)
  ·rename_i h0;refine List.pairwise_cons.2 ⟨fun b hb=>?_,FU (l:=r) h.2⟩;rcases Ea hb with rfl|hb
   ·omega
   ·exact h.1 b hb
theorem s7:∀l:List a7,kL (dV l):=by
 intro l;rw[←List.reverse_reverse l];generalize l.reverse=r
 induction r with
 | nil=>simp[dV,kL]
 | cons a r ih=>rw[List.reverse_cons,nE];exact FU ih
theorem kL.get{l:List a7}(h:kL l){i j:Nat}{a b:a7}(hij:i<j)(ha:l[i]? = some a)(hb:l[j]? = some b):bW a b<0:=by
 obtain⟨hi,rfl⟩:=List.getElem?_eq_some_iff.1 ha;obtain⟨hj,rfl⟩:=List.getElem?_eq_some_iff.1 hb;exact List.pairwise_iff_getElem.1 h i j hi hj hij
end Go.Ax
