/- A part of the proof. -/
import Derived.Test.YtpajadlnaokngaaGreatDoorAx20
set_option linter.unusedVariables false
set_option linter.unusedSimpArgs false
set_option linter.unusedSectionVars false
namespace Go.Proofs.YtpajadlnaokngaaGreatDoor
open Go Go.Ax Go.Proofs Tryz
set_option maxRecDepth 100000
set_option maxHeartbeats 16000000
theorem OH(l:List aU)(hl:l.length<=4294967296)(hok:∀v∈l,fY v):a7 prog [] 9 [.il 4 (aL l),.il 4 (aL l)] (.bool true):=by
 have hlen:=aA l;refine aO bD func9 rfl ?_;refine Rr ?_;rw[bne_self_eq_false];refine Rr ?_;refine aZ.at bD (fun k:Nat=>k<=l.length) (fun k=>⟨[(0,.il 4 (aL l)),(1,.il 4 (aL l)),(5,.int .i64 k)],[],0,29⟩) (fun k=>l.length-k) 0 [] om
  (bC ⟨a5 (.il' (aR _)),a5 (.il' (aR _)),aG,trivial⟩) ?_
 intro k hk;refine Rr ?_;refine aE (fun hb=>?_) (fun hb=>?_)
 ·have hlt:k<l.length:=by rw[hlen] at hb;simp at hb;omega
  obtain⟨v1,v2,v3,v4,vm,vg,-,ev⟩:=bB (l:=l) (k:=k) hlt;have hc:=pN (.mk v1 v2 v3 v4) (.mk v1 v2 v3 v4) (hok _ vm);rw[JY] at hc;refine Rt ?_;repeat(refine aD ev ?_;refine Rt ?_)
  refine hc.go ?_;refine Rt ?_;exact .mk (k+1) [] om (bC ⟨a5 (.il' (aR _)),a5 (.il' (aR _)),⟨_,rfl,.w64 om ⟨om,om⟩⟩,trivial⟩) om
 ·refine Rr ?_;exact aB (.bool _) ⟨rfl,rfl,rfl⟩
theorem qC(A:List Nd):NN (.agg [.il 12 (aY A)]):=.agg' (.cons (.il' (aS _)) .nil)
def Ed(A B:List Nd):List AV:=[.agg [.il 12 (aY A)],.agg [.il 12 (aY B)]]
theorem Ej(A B:List Nd):iV (Ed A B):=.cons (qC A) (.cons (qC B) .nil)
theorem KA{A B:List Nd}{i:Nat}(hi:i<2)(hA:i9 A)(hB:i9 B):∃C,i9 C/\(Ed A B)[((i:Nat):Int).toNat]? = some (.agg [.il 12 (aY C)]):=by
 match i,hi with
 | 0,_=>exact⟨A,hA,rfl⟩
 | 1,_=>exact⟨B,hB,rfl⟩
theorem D2(l:List Int)(at_ how n most:Int)(hl:∀x∈l,i64 x)(ha:i64 at_)(hh:i64 how)(hn:i64 n)(_:i64 most)(hLv:a7 prog gz 10 [] (.bool true)) :
  a7 prog gz 3 [.il 1 (aW l),.int .i64 at_,.int .i64 how,.int .i64 n,.int .i64 most] (.bool true):=by
 have nl:NN (.il 1 (aW l)):=.il' (aT l);refine aO mM func3 rfl ?_;refine Rr ?_;refine O3 l hl fun A hA hAl=>?_
 have tA:i9 A:=B0 (LB:=LB) (fun s hs=>GW hs) (fun x hx=>ID HE (Bw hA x hx)) om;refine Rt ?_;refine aF.goG0 (KH A at_ how n (Bw hA) hAl ha hh hn) ?_ (.cons (qC A) (.cons nn (.cons nn (.cons nn .nil))));rintro r mm k ⟨B,h1,h2,h3,rfl,rfl,rfl⟩;have tB:i9 B:=B0 (LB:=LB) (fun s hs=>GW hs) h1 om;refine⟨_,.same _ (qC B), ?_⟩;refine Rt ?_;generalize IntKind.i64.wrap (1023*most.tmod 2)=w;have nT:NN (.il 1 (Ed A B)):=.il' (Ej A B);have nW:NN (.il 1 (aW [most,1024,w,3])):=.il' (aT _);obtain⟨ws,hws⟩:∃ws:List Int,ws=[most,1024,w,3]:=⟨_,rfl⟩
 have hwl:ws.length=4:=by rw[hws];rfl
 refine aZ.at mM (fun i:Nat=>i<=2) (fun i=>⟨[(12,.il 1 (Ed A B)),(13,.il 1 (aW ws)),(14,.int .i64 i)],[],0,76⟩) (fun i=>2-i) 0 [] om
  (bC ⟨⟨_,rfl,Nr (id:=7) rfl rfl rfl (Ej A B)⟩,⟨_,rfl,Nr (id:=9) rfl rfl (by rw[hws];rfl) (aT ws)⟩,aG,trivial⟩) ?_
 rw[←hws] at nW;clear hws;intro i hi;have di:decide ((i:Int)<2)=decide (i<2):=Sw.2 om;by_cases hlt:i<2
 ·obtain⟨C,tC,eC⟩:=KA hlt tA tB;have nC:=qC C;refine Rr ?_;rw[di,RE hlt];refine Rr ?_;refine aZ.at mM (fun k:Nat=>k<=4) (fun k=>⟨[(12,.il 1 (Ed A B)),(13,.il 1 (aW ws)),(14,.int .i64 i),(15,.int .i64 k)],[],0,76⟩) (fun k=>4-k) 0 [] om
   (bC ⟨a5 nT,a5 nW,aG,aG,trivial⟩) ?_
  intro k hk;have dk:decide ((k:Int)<4)=decide (k<4):=Sw.2 om;by_cases hkt:k<4
  ·have eM:=Mx (l:=ws) (k:=k) om;generalize ws[k]=m at eM;have hO:=LH tC m;have hR:=LG tC m;obtain⟨q1,q2⟩:=Kq tC m;have hS:=OH (mG C m).1 om q2;generalize (mG C m).1=vs at *;generalize (mG C m).2=e at *;have nv:NN (.il 4 (aL vs)):=.il' (aR vs);refine Rr ?_;rw[dk,RE hkt];refine Rt ?_;repeat((first|refine aD eC ?_|refine aD eM ?_);refine Rt ?_)
   refine hO.goG ?_ (.cons nC (.cons nn .nil)) (.tup' (.cons nv (.cons nn .nil)));refine Rt ?_;repeat((first|refine aD eC ?_|refine aD eM ?_);refine Rt ?_)
   refine hR.goG ?_ (.cons nC (.cons nn .nil)) (.tup' (.cons nv (.cons nn .nil)));refine Rt ?_;repeat((first|refine aD eC ?_|refine aD eM ?_);refine Rt ?_)
   rw[show (e != e)=false by simp];refine Rt ?_;repeat((first|refine aD eC ?_|refine aD eM ?_);refine Rt ?_)
   refine hS.goG ?_ (.cons nv (.cons nv .nil)) nn;refine Rt ?_;repeat((first|refine aD eC ?_|refine aD eM ?_);refine Rt ?_)
   exact .mk (k+1) [] om (bC ⟨a5 nT,a5 nW,aG,⟨_,rfl,.w64 om ⟨om,om⟩⟩,trivial⟩) om
  ·refine Rr ?_;rw[dk,Rd hkt];refine Rr ?_;exact .mk (i+1) [] om (bC ⟨a5 nT,a5 nW,⟨_,rfl,.w64 om ⟨om,om⟩⟩,trivial⟩) om
 ·refine Rr ?_;rw[di,Rd hlt];refine Rr ?_;refine hLv.use mM .nil nn ?_;refine Rr ?_;exact aB nn ⟨rfl,rfl,rfl⟩
end Go.Proofs.YtpajadlnaokngaaGreatDoor
namespace Go.Ax
open Go
def u5(f:AV->Option AV):List AV->Option (List AV)
 | []=>some []
 | a::r=>match f a with
  | none=>none
  | some b=>match u5 f r with
   | none=>none
   | some t=>some (b::t)
def frz:Nat->List (Nat × Nat)->aN->AV->Option AV
 | 0,_,_,_=>none
 | n+1,σ,m,v=>match v with
  | .bool b=>some (.bool b)
  | .int k i=>some (.int k i)
  | .str s=>some (.str s)
  | .nptr=>some .nptr
  | .nsl=>some .nsl
  | .nmap=>some .nmap
  | .nfn=>some .nfn
  | .nif=>some .nif
  | .sl id off len=>match lk σ id with
   | none=>match lk m id with
    | some (.row t sz xs)=>match Nat.ble (off+len) xs.length with
     | true=>match u5 (frz n σ m) ((xs.drop off).take len) with
      | some ys=>some (.il sz ys)
      | none=>none
     | false=>none
    | _=>none
   | some _=>none
  | .il sz xs=>match u5 (frz n σ m) xs with
   | some ys=>some (.il sz ys)
   | none=>none
  | .ifc t v=>match frz n σ m v with
   | some v'=>some (.ifc t v')
   | none=>none
  | .agg cs=>match u5 (frz n σ m) cs with
   | some ys=>some (.agg ys)
   | none=>none
  | .tup cs=>match u5 (frz n σ m) cs with
   | some ys=>some (.tup ys)
   | none=>none
  | _=>none
structure vI(m:aN)(σ:List (Nat × Nat))(v v':AV):Prop where
 cv:Cv m σ v v'
 nn:NN v'
 ce:lL m σ v.cells v'.cells
theorem vI.len{m:aN}{σ:List (Nat × Nat)}{v v':AV}(h:vI m σ v v'):v.cells.length=v'.cells.length:=h.ce.1
theorem f0{m:aN}{σ:List (Nat × Nat)}{f:AV->Option AV}(hf:∀v v',f v=some v'->vI m σ v v'):∀{l l':List AV},u5 f l=some l'->l.length=l'.length/\∀(j:Nat) (a b:AV),l[j]? = some a->l'[j]? = some b->vI m σ a b
 | [],l',h=>by simp only[u5] at h;cases h;exact⟨rfl,fun j a b h=>by simp at h⟩
 | a::r,l',h=>by
  simp only[u5] at h;split at h
  ·cases h
  ·rename_i b hb;split at h
   ·cases h
   ·rename_i t ht;cases h;obtain⟨h1,h2⟩:=f0 hf ht;refine⟨by simp[h1],fun j x y hx hy=>?_⟩;cases j with
    | zero=>simp at hx hy;subst hx hy;exact hf _ _ hb
    | succ j=>simp at hx hy;exact h2 j x y hx hy
theorem sL{m:aN}{σ:List (Nat × Nat)}{l l':List AV}(h1:l.length=l'.length)(h2:∀(j:Nat) (a b:AV),l[j]? = some a->l'[j]? = some b->vI m σ a b):iV l':=fun b hb=>by
 obtain⟨j,hj⟩:=RQ hb;obtain⟨a,ha⟩:=cH h1 hj;exact(h2 j a b ha hj).nn
theorem vI.one{m:aN}{σ:List (Nat × Nat)}{v v':AV}(h1:v.cells=[v])(h2:v'.cells=[v'])(hc:Cv m σ v v')(hn:NN v'):vI m σ v v':=
 ⟨hc,hn,by rw[h1,h2];exact lL.cons hc .nil⟩
theorem i7{m:aN}{σ:List (Nat × Nat)}:∀(n:Nat) (v v':AV),frz n σ m v=some v'->vI m σ v v'
 | 0,v,v',h=>by simp[frz] at h
 | n+1,v,v',h=>by
  have ih:=i7 (m:=m) (σ:=σ) n;cases v with
  | bool b=>simp only[frz] at h;cases h;exact .one rfl rfl (.same _ (.bool b)) (.bool b)
  | int k i=>simp only[frz] at h;cases h;exact .one rfl rfl (.same _ (.int k i)) (.int k i)
  | str s=>simp only[frz] at h;cases h;exact .one rfl rfl (.same _ (.str s)) (.str s)
  | nptr=>simp only[frz] at h;cases h;exact .one rfl rfl (.same _ .nptr) .nptr
  | nsl=>simp only[frz] at h;cases h;exact .one rfl rfl (.same _ .nsl) .nsl
  | nmap=>simp only[frz] at h;cases h;exact .one rfl rfl (.same _ .nmap) .nmap
  | nfn=>simp only[frz] at h;cases h;exact .one rfl rfl (.same _ .nfn) .nfn
  | nif=>simp only[frz] at h;cases h;exact .one rfl rfl (.same _ .nif) .nif
  | ptr id i j=>simp[frz] at h
  | mp id=>simp[frz] at h
  | ip v=>simp[frz] at h
  | fn f a b=>simp[frz] at h
  | junk=>simp[frz] at h
  | yld id=>simp[frz] at h
  | sl id off len=>
   simp only[frz] at h;split at h
   ·rename_i hs;split at h
    ·rename_i t sz xs hx;split at h
     ·rename_i hle;split at h
      ·rename_i ys hy;cases h;have hle:=Qu hle;obtain⟨h1,h2⟩:=f0 ih hy;have hget:∀(i:Nat) (x y:AV),xs[off+i]? = some x->ys[i]? = some y->vI m σ x y:=fun i x y hx hy=>by
        refine h2 i x y ?_ hy;have hlt:i<ys.length:=(Qv.1 hy).1;rw[←h1] at hlt;rw[RO,Q3 (by simp at hlt;omega),RU];exact hx
       refine .one rfl rfl (.fz id off len t sz xs ys hx hs hle (by rw[←h1];simp;omega) (fun i x y hx hy=>(hget i x y hx hy).len) fun i x y j c c' hx hy hc hc'=>(hget i x y hx hy).ce.2 j c c' hc hc') ?_;exact NN.il' (sL h1 h2)
      ·cases h
     ·cases h
    ·cases h
   ·cases h
  | il sz xs=>
   simp only[frz] at h;split at h
   ·rename_i ys hy;cases h;obtain⟨h1,h2⟩:=f0 ih hy;refine .one rfl rfl (.il sz xs ys h1 (fun i x y hx hy=>(h2 i x y hx hy).len) fun i x y j c c' hx hy hc hc'=>(h2 i x y hx hy).ce.2 j c c' hc hc') ?_;exact NN.il' (sL h1 h2)
   ·cases h
  | ifc t v=>
   simp only[frz] at h;split at h
   ·rename_i v' hv;cases h;exact .one rfl rfl (.ifc t v v' (ih v v' hv).cv) (.ifc t v' (ih v v' hv).nn)
   ·cases h
  | agg cs=>
   simp only[frz] at h;split at h
   ·rename_i ys hy;cases h;obtain⟨h1,h2⟩:=f0 ih hy;have hl:lL m σ cs ys:=⟨h1,fun j c c' hc hc'=>(h2 j c c' hc hc').cv⟩
    exact⟨.agg' hl,.agg' (sL h1 h2),hl⟩
   ·cases h
  | tup cs=>
   simp only[frz] at h;split at h
   ·rename_i ys hy;cases h;obtain⟨h1,h2⟩:=f0 ih hy;have hl:lL m σ cs ys:=⟨h1,fun j c c' hc hc'=>(h2 j c c' hc hc').cv⟩
    exact .one rfl rfl (.tup' hl) (.tup' (sL h1 h2))
   ·cases h
theorem Mh{m:aN}{args bs:List AV}(n:Nat)(h:u5 (frz n [] m) args=some bs):lL m [] args bs:=by
 obtain⟨h1,h2⟩:=f0 (i7 n) h;exact⟨h1,fun j c c' hc hc'=>(h2 j c c' hc hc').cv⟩
def NT:aN->List (Nat × Nat)
 | []=>[]
 | (i,_)::r=>(i,i)::NT r
theorem OS{mem:aN}:∀{i:Nat} {b:AB},lk mem i=some b->lk (NT mem) i=some i:=by
 induction mem with
 | nil=>intro i b h;simp[lk] at h
 | cons p r ih=>
  intro i b h;obtain⟨j,u⟩:=p;simp only[lk] at h;simp only[NT,lk];split at h
  ·rename_i e;rw[Nat.eq_of_beq_eq_true e]
  ·exact ih h
def He(m:aN):aN->Bool
 | []=>true
 | (i,b)::r=>(match b with
  | .row t sz xs=>match lk m i with
   | some (.row t' sz' xs')=>match u5 (frz 30 [] []) xs with
    | some ys=>Nat.beq t t' && (Nat.beq sz sz' && (kR xs' xs && kR ys xs))
    | none=>false
   | _=>false
  | _=>false) && He m r
theorem xL{m:aN}(σ:List (Nat × Nat)):∀{mem:aN},He m mem=true->(∀p∈mem,lk σ p.1=some p.1)->cP m σ mem
 | [],h,hs=>trivial
 | (i,b)::r,h,hs=>by
  simp only[He,Qt] at h;refine⟨?_,xL σ h.2 fun p hp=>hs p (RA _ hp)⟩;have h:=h.1;split at h
  ·rename_i t sz xs;split at h
   ·rename_i t' sz' xs' hl;split at h
    ·rename_i ys hy;simp only[Qt] at h;obtain⟨h1,h2,h3,h4⟩:=h;have e1:=Nat.eq_of_beq_eq_true h1;have e2:=Nat.eq_of_beq_eq_true h2;have e3:=fM h3;have e4:=fM h4;subst e1 e2 e3 e4;obtain⟨g1,g2⟩:=f0 (i7 30) hy;exact⟨i,ys,hs _ (RP ..),hl,.same (sL g1 g2)⟩
    ·cases h
   ·cases h
  ·cases h
def QZ(mem:aN)(want r:AV)(m:aN):Bool:=
 match frz 30 (NT mem) m r with
 | some v=>match gX v want with
  | true=>He m mem
  | false=>false
 | none=>false
def QX(mem:aN)(want r:AV)(m:aN):Prop:=
 match QZ mem want r m with
 | true=>True
 | false=>False
theorem MP:∀{mem:aN},(mem.map (·.1)).Nodup->∀p∈mem,lk (NT mem) p.1=some p.1:=by
 intro mem hn p hp;have:∃b,lk mem p.1=some b:=by
  clear hn
  induction mem with
  | nil=>cases hp
  | cons q r ih=>
   obtain⟨j,u⟩:=q;simp only[lk];split
   ·exact⟨u,rfl⟩
   ·rename_i e;rcases Qw.1 hp with rfl|hp
    ·simp at e
    ·exact ih hp
 obtain⟨b,hb⟩:=this;exact OS hb
def AD(nx:Nat):aN->aN->(aN->aN->Prop)->Prop
 | [],acc,K=>K acc []
 | (i,b)::r,acc,K=>match Nat.ble nx i with
  | true=>AD nx r ((i,b)::acc) K
  | false=>K acc ((i,b)::r)
def Fm(f:AV->(AV->Prop)->Prop->Prop):List AV->(List AV->Prop)->Prop->Prop
 | [],K,_=>K []
 | a::r,K,N=>f a (fun b=>Fm f r (fun t=>K (b::t)) N) N
def JW:Nat->aN->AV->(AV->Prop)->Prop->Prop
 | 0,_,_,_,N=>N
 | n+1,m,v,K,N=>match v with
  | .bool b=>K (.bool b)
  | .int k i=>K (.int k i)
  | .str s=>K (.str s)
  | .nptr=>K .nptr
  | .nsl=>K .nsl
  | .nmap=>K .nmap
  | .nfn=>K .nfn
  | .nif=>K .nif
  | .sl id off len=>match lk m id with
   | some (.row t sz xs)=>match Nat.ble (off+len) xs.length with
    | true=>Fm (JW n m) ((xs.drop off).take len) (fun ys=>K (.il sz ys)) N
    | false=>N
   | _=>N
  | .il sz xs=>Fm (JW n m) xs (fun ys=>K (.il sz ys)) N
  | .ifc t v=>JW n m v (fun v'=>K (.ifc t v')) N
  | .agg cs=>Fm (JW n m) cs (fun ys=>K (.agg ys)) N
  | .tup cs=>Fm (JW n m) cs (fun ys=>K (.tup ys)) N
  | _=>N
theorem wG{f:AV->(AV->Prop)->Prop->Prop}{g:AV->Option AV}{N:Prop}(hf:∀v K,f v K N->N∨∃v',g v=some v'/\K v'):∀{l:List AV} {K:List AV->Prop},Fm f l K N->N∨∃l',u5 g l=some l'/\K l'
 | [],K,h=>.inr ⟨[],rfl,h⟩
 | a::r,K,h=>by
  rcases hf a _ h with h|⟨b,h1,h⟩
  ·exact .inl h
  ·rcases wG hf h with h|⟨t,h2,h⟩
   ·exact .inl h
   ·exact .inr ⟨b::t,by simp only[u5,h1,h2],h⟩
theorem L2{m:aN}{N:Prop}:∀(n:Nat) (v:AV) (K:AV->Prop),JW n m v K N->N∨∃v',frz n [] m v=some v'/\K v'
 | 0,v,K,h=>.inl h
 | n+1,v,K,h=>by
  have ih:=L2 (m:=m) (N:=N) n;cases v with
  | bool b=>exact .inr ⟨_,rfl,h⟩
  | int k i=>exact .inr ⟨_,rfl,h⟩
  | str s=>exact .inr ⟨_,rfl,h⟩
  | nptr=>exact .inr ⟨_,rfl,h⟩
  | nsl=>exact .inr ⟨_,rfl,h⟩
  | nmap=>exact .inr ⟨_,rfl,h⟩
  | nfn=>exact .inr ⟨_,rfl,h⟩
  | nif=>exact .inr ⟨_,rfl,h⟩
  | ptr id i j=>exact .inl h
  | mp id=>exact .inl h
  | ip v=>exact .inl h
  | fn f a b=>exact .inl h
  | junk=>exact .inl h
  | yld id=>exact .inl h
  | sl id off len=>
   simp only[JW] at h;split at h
   ·rename_i t sz xs hx;split at h
    ·rename_i hle;rcases wG ih h with h|⟨ys,h1,h⟩
     ·exact .inl h
     ·exact .inr ⟨_,by simp only[frz,lk,hx,hle,h1],h⟩
    ·exact .inl h
   ·exact .inl h
  | il sz xs=>
   simp only[JW] at h;rcases wG ih h with h|⟨ys,h1,h⟩
   ·exact .inl h
   ·exact .inr ⟨_,by simp only[frz,h1],h⟩
  | ifc t v=>
   simp only[JW] at h;rcases ih v _ h with h|⟨v',h1,h⟩
   ·exact .inl h
   ·exact .inr ⟨_,by simp only[frz,h1],h⟩
  | agg cs=>
   simp only[JW] at h;rcases wG ih h with h|⟨ys,h1,h⟩
   ·exact .inl h
   ·exact .inr ⟨_,by simp only[frz,h1],h⟩
  | tup cs=>
   simp only[JW] at h;rcases wG ih h with h|⟨ys,h1,h⟩
   ·exact .inl h
   ·exact .inr ⟨_,by simp only[frz,h1],h⟩
def Qa(nx:Nat)(K:AV->aN->Nat->Prop)(r:AV)(m:aN)(n:Nat):Prop:=
 AD nx m [] fun m1 rest=>JW 60 m1 r (fun r'=>K r' rest n) (K r m n)
theorem z7{nx:Nat}:∀{m acc:aN} {K:aN->aN->Prop},AD nx m acc K->∃m0 rest,m=m0++rest/\K (m0.reverse++acc) rest
 | [],acc,K,h=>⟨[],[],rfl,h⟩
 | (i,b)::r,acc,K,h=>by
  simp only[AD] at h;split at h
  ·obtain⟨m0,rest,h1,h2⟩:=z7 h;exact⟨(i,b)::m0,rest,by rw[h1];rfl,by simpa using h2⟩
  ·exact⟨[],(i,b)::r,rfl,h⟩
theorem MR.sub{Γ:List (Nat × AV)}{X:Nat->Prop}{ρ:Nat->bY}{D:Nat->Prop}{mem rest:aN}{w:World}(hm:MR Γ X ρ D mem w)(hs:∀p∈rest,p∈mem)(hn:(rest.map (·.1)).Nodup):MR Γ X ρ D rest w:=by
 have ho:∀b,¬OX X ρ mem b->¬OX X ρ rest b:=by
  rintro b h (h'|⟨p,hp,h1,h2⟩)
  ·exact h (.inl h')
  ·exact h (.inr ⟨p,hs p hp,h1,h2⟩)
 refine⟨fun p h=>hm.low p (hs p h),fun p h hn=>?_,fun p h=>hm.emp p (hs p h),fun p h q h'=>hm.inj p (hs p h) q (hs q h'),hn,fun b hb=>⟨(hm.bar b hb).1,fun⟨p,hp,h1,h2⟩=>(hm.bar b hb).2 ⟨p,hs p hp,h1,h2⟩⟩,fun p h=>(hm.glo p h).mono (fun _ _=>rfl) (fun _ h=>h) fun b _ h=>⟨ho b h,rfl⟩⟩;obtain⟨o,h1,h2⟩:=hm.blk p (hs p h) hn;exact⟨o,h1,h2.mono (fun _ _=>rfl) (fun _ h=>h) fun b _ h=>⟨ho b h,rfl⟩⟩
theorem KO{P:Program}{Γ:List (Nat × AV)}(hΓ:∀p∈Γ,NN p.2){F:FuncId}{args:List AV}{mem:aN}{nx:Nat}{K:AV->aN->Nat->Prop}{Kp:Value->aN->Nat->Prop}(h:dI P Γ F args mem nx (Qa nx K) Kp):dI P Γ F args mem nx K Kp:=by
 refine⟨fun X D ρ w vs hD hm hv=>(h.run X D ρ w vs hD hm hv).mono ?_⟩;rintro e w' ⟨m',n',ρ',hn,hm',hext,hend⟩;rcases hend with⟨r,v,rfl,hq,hr⟩|⟨x,rfl,hq⟩
 ·obtain⟨m0,rest,rfl,hq⟩:=z7 hq;rw[SP] at hq;rcases L2 60 r _ hq with hq|⟨r',h1,hq⟩
  ·exact⟨_,n',ρ',hn,hm',hext,.inl ⟨r,v,rfl,hq,hr⟩⟩
  ·have hnd:=hm'.nod;rw[SW,SX] at hnd;obtain⟨d1,d2,d3⟩:=hnd;have hp:s9 (m0++rest) m0.reverse rest:=⟨fun p h=>RK _ (TB.1 h),fun p h=>Rp _ h,fun p h=>by
    rcases Q9.1 h with h|h
    ·exact .inl (TB.2 h)
    ·exact .inr h,fun p h1 q h2=>d3 _ (RD.2 ⟨p,TB.1 h1,rfl⟩) _ (RD.2 ⟨q,h2,rfl⟩),by
    rw[List.map_reverse];exact List.pairwise_reverse.2 (d1.imp fun h=>Ne.symm h)⟩
   obtain⟨p1,pv⟩:=hm'.part hp;have hF:=i7 (m:=m0.reverse) (σ:=[]) 60 r r' h1;obtain⟨-,v1,-⟩:=AN (σ:=[]) (m':=[]) (n':=n') hΓ hD p1 (fun p hp=>by cases hp) TE (fun i j k h=>by simp[lk] at h) (fun i j h=>by simp[lk] at h);have e:jN [] ρ' ρ'=ρ':=funext fun i=>wT (by rintro⟨j,h⟩;simp[lk] at h)
   have hv':=v1 r r' hF.cv v (pv _ _ hr);rw[e] at hv';refine⟨rest,n',ρ',hn,hm'.sub (fun p h=>Rp _ h) d2,⟨hext.le,hext.agree,hext.size,hext.keep,fun p h=>hext.fresh p (Rp _ h),hext.env⟩,.inl ⟨r',v,rfl,hq,hv'.mono (fun _ _=>rfl) (fun _ h=>h) fun b _ ho=>⟨fun h=>ho (.inl ?_),rfl⟩⟩⟩;exact h
 ·exact⟨m',n',ρ',hn,hm',hext,.inr ⟨x,rfl,hq⟩⟩
def MJ:List (Nat × List AV × AV)->Nat->List AV->(AV->Prop)->Prop->Prop
 | [],_,_,_,N=>N
 | (G,as',r)::t,F,args,K,N=>match Nat.beq G F with
  | true=>match kR args as' with
   | true=>K r
   | false=>MJ t F args K N
  | false=>MJ t F args K N
def lI(P:Program)(Γ:List (Nat × AV))(tb:List (Nat × List AV × AV)):Prop:=∀e∈tb,a7 P Γ e.1 e.2.1 e.2.2/\iV e.2.1/\NN e.2.2
theorem KE{P:Program}{Γ:List (Nat × AV)}(hΓ:∀p∈Γ,NN p.2){F:Nat}{args:List AV}{mem:aN}{nx:Nat}{K:AV->aN->Nat->Prop}{N:Prop}:∀{tb:List (Nat × List AV × AV)},lI P Γ tb->MJ tb F args (fun r=>K r mem nx) N->N∨aF P Γ F args mem nx K
 | [],_,h=>.inl h
 | (G,as',r)::t,ht,h=>by
  have h2:lI P Γ t:=fun e he=>ht e (RA _ he)
  simp only[MJ] at h;split at h
  ·rename_i hG;split at h
   ·rename_i he;have e1:=Nat.eq_of_beq_eq_true hG;have e2:=fM he;subst e1 e2;obtain⟨g1,g2,g3⟩:=ht _ (RP ..);exact .inr (g1.use hΓ g2 g3 h)
   ·exact KE hΓ h2 h
  ·exact KE hΓ h2 h
theorem lI.nil{P:Program}{Γ:List (Nat × AV)}:lI P Γ []:=fun e h=>by cases h
theorem lI.cons{P:Program}{Γ:List (Nat × AV)}{F:Nat}{xs:List AV}{r:AV}{t:List (Nat × List AV × AV)}(h:a7 P Γ F xs r)(h1:u5 (frz 30 [] []) xs=some xs)(h2:frz 30 [] [] r=some r)(ht:lI P Γ t):lI P Γ ((F,xs,r)::t):=by
 intro e he;rcases Qw.1 he with rfl|he
 ·obtain⟨g1,g2⟩:=f0 (m:=[]) (σ:=[]) (i7 30) h1;exact⟨h,sL g1 g2,(i7 (m:=[]) (σ:=[]) 30 r r h2).nn⟩
 ·exact ht e he
end Go.Ax
namespace Go.Ax
open Go
noncomputable def P7{α:Type}(l:List (Nat × α))(j:Nat)(K:α->Prop):Prop:=
 List.rec (motive:=fun _=>Prop) False (fun p _ ih=>Prod.rec (motive:=fun _=>Prop) (fun i v=>Bool.rec (motive:=fun _=>Prop) ih (K v) (Nat.beq i j)) p) l
theorem GA{α:Type}(j:Nat)(K:α->Prop):∀l:List (Nat × α),P7 l j K=opt (lk l j) K
 | []=>rfl
 | (i,v)::r=>by
  have ih:=GA j K r
  show Bool.rec (motive:=fun _=>Prop) (P7 r j K) (K v) (Nat.beq i j)=opt (lk ((i,v)::r) j) K
  rw[ih];simp only[lk];cases Nat.beq i j<;>rfl
noncomputable def P8{α:Type}(l:List (Nat × α))(j:Nat)(v:α):(List (Nat × α)->Prop)->Prop:=
 List.rec (motive:=fun _=>(List (Nat × α)->Prop)->Prop) (fun K=>K [(j,v)]) (fun p r ih=>fun K=>Prod.rec (motive:=fun _=>Prop) (fun i u=>Bool.rec (motive:=fun _=>Prop) (ih fun l=>K ((i,u)::l)) (K ((i,v)::r)) (Nat.beq i j)) p) l
theorem La{α:Type}(j:Nat)(v:α):∀(l:List (Nat × α)) (K:List (Nat × α)->Prop),P8 l j v K=ET l j v K
 | [],K=>rfl
 | (i,u)::r,K=>by
  have ih:=La j v r fun l=>K ((i,u)::l)
  show Bool.rec (motive:=fun _=>Prop) (P8 r j v fun l=>K ((i,u)::l)) (K ((i,v)::r)) (Nat.beq i j)=ET ((i,u)::r) j v K
  rw[ih];simp only[ET];cases Nat.beq i j<;>rfl
def QA(v:Value)(K:AV->Prop):Prop:=
 match v with
 | .string s=>sZ s.data.toList fun l=>K (.str l)
 | v=>opt (tI v) K
noncomputable def iY(Γ:List (Nat × AV))(sl:List (Nat × AV))(x:Operand)(K:AV->Prop):Prop:=
 Operand.rec (motive:=fun _=>Prop) (fun t=>P7 sl t K) (fun v=>QA v K) (fun g=>P7 Γ g fun v=>K (.ip v)) (fun f=>K (.fn (.func f) [] [])) x
theorem IB(Γ sl:List (Nat × AV))(x:Operand)(K:AV->Prop):iY Γ sl x K=iI Γ sl x K:=by
 cases x with
 | tmp t=>exact GA t K sl
 | const v=>cases v<;>rfl
 | global g=>exact GA g (fun v=>K (.ip v)) Γ
 | func f=>rfl
theorem BO:iY=iI:=by funext Γ sl x K;exact IB Γ sl x K
def PC(Γ sl:List (Nat × AV))(K:AV->Prop)(a b:Operand)(c:AV):Prop:=match c with
 | .bool c=>Jc c (iI Γ sl a K) (iI Γ sl b K)
 | _=>False
def Px(P:Program)(mem:aN)(nx:Nat)(src dst:TypeId)(a:AV)(K:AV->aN->Nat->Prop):Prop:=match P.underlying dst with
  | some (.slice _)=>rR true P mem nx src dst a K
  | _=>Hi true P mem src dst a fun v=>K v mem nx
section
variable (P:Program) (Γ:List (Nat × AV)) (H:Hk) (sl:List (Nat × AV)) (mem:aN) (nx:Nat) (K:AV->aN->Nat->Prop) (Kp:Value->aN->Nat->Prop)
noncomputable def Jv(x:Operand):Prop:=iY Γ sl x fun v=>K v mem nx
noncomputable def NV(c a b:Operand):Prop:=iY Γ sl c (PC Γ sl (fun v=>K v mem nx) a b)
noncomputable def PL(t:TypeId)(x:Operand):Prop:=iY Γ sl x fun v=>Nu P mem nx t v K
noncomputable def Ni(t:TypeId)(x:Operand):Prop:=iY Γ sl x fun p=>Eg P mem t p fun v=>K v mem nx
noncomputable def Jx(t:TypeId)(x y:Operand):Prop:=iY Γ sl x fun p=>iY Γ sl y fun v=>Cw P mem t p v fun m=>K (.tup []) m nx
noncomputable def PU(x:Operand):Prop:=iY Γ sl x fun p=>opt (KI p) fun v=>K v mem nx
noncomputable def Pg(op:BinOp)(t:TypeId)(x y:Operand):Prop:=iY Γ sl x fun a=>iY Γ sl y fun b=>MS true P op t x y a b fun v=>K v mem nx
noncomputable def QY(op:UnOp)(x:Operand):Prop:=iY Γ sl x fun a=>P6 true op a fun v=>K v mem nx
noncomputable def NS(src dst:TypeId)(x:Operand):Prop:=iY Γ sl x fun a=>Px P mem nx src dst a K
noncomputable def Qd(t:TypeId)(x:Operand)(f:Nat):Prop:=iY Γ sl x fun p=>oY P t f p fun v=>K v mem nx
noncomputable def Qi(t:TypeId)(x:Operand)(f:Nat):Prop:=iY Γ sl x fun p=>Ds P t f p fun v=>K v mem nx
noncomputable def Qf(t:TypeId)(x ix:Operand):Prop:=iY Γ sl x fun p=>iY Γ sl ix fun i=>oK true P mem t p i fun v=>K v mem nx
noncomputable def Qh(t:TypeId)(x ix:Operand):Prop:=iY Γ sl x fun p=>iY Γ sl ix fun i=>Cl true P t p i fun v=>K v mem nx
noncomputable def Qg(x:Operand)(i:Nat):Prop:=iY Γ sl x fun p=>opt (qF p i) fun v=>K v mem nx
noncomputable def Na(t:TypeId)(x ix:Operand)(ok:Bool):Prop:=iY Γ sl x fun p=>iY Γ sl ix fun i=>opt (u6 P mem t p i ok) fun v=>K v mem nx
noncomputable def QB(t:TypeId)(x y z:Operand):Prop:=iY Γ sl x fun p=>iY Γ sl y fun k=>iY Γ sl z fun v=>kW P mem t p k v fun m=>K (.tup []) m nx
noncomputable def PD(x:Operand):Prop:=iY Γ sl x fun v=>opt (quo v) fun y=>Kp y mem nx
def N3(t:TypeId)(parts:Array (Nat × Operand)):Prop:=mW Γ sl parts.toList fun ps=>DY P t ps fun v=>K v mem nx
def Qk(t:TypeId)(len:Nat)(parts:Array (Nat × Operand)):Prop:=mW Γ sl parts.toList fun ps=>lR P mem nx t len ps K
noncomputable def NL(ce:Callee)(args:Array Operand)(ts:Array TypeId):Prop:=
 Callee.rec (motive:=fun _=>Prop) (fun f=>Gi P Γ sl f args.toList (fun v=>K v mem nx) fun F l=>H.call F l mem nx K Kp) (fun _ _=>False) (fun b=>vF true P Γ sl mem nx b args.toList ts.toList K) ce
noncomputable def PQ(c:Call):Prop:=Call.rec (motive:=fun _=>Prop) (fun ce args ts=>NL P Γ H sl mem nx K Kp ce args ts) c
def iF(op:Op):Prop:=EZ true P Γ H sl mem nx op K Kp
noncomputable def P3(op:Op):Prop:=
 Op.rec (motive:=fun _=>Prop)
  (Jv Γ sl mem nx K) (Jv Γ sl mem nx K) (NV Γ sl mem nx K) (fun t=>Cm P mem nx t K) (PL P Γ sl mem nx K) (N3 P Γ sl mem nx K) (Qk P Γ sl mem nx K)
  (QB P Γ sl mem nx K) (Ni P Γ sl mem nx K) (Jx P Γ sl mem nx K) (fun g=>iF P Γ H sl mem nx K Kp (.ready g)) (fun g=>iF P Γ H sl mem nx K Kp (.waits g)) (PU Γ sl mem nx K)
  (fun op t x y _=>Pg P Γ sl mem nx K op t x y) (fun op _ x=>QY Γ sl mem nx K op x) (NS P Γ sl mem nx K) (fun t x=>iF P Γ H sl mem nx K Kp (.sliceToArrayPointer t x)) (fun t x=>iF P Γ H sl mem nx K Kp (.makeInterface t x))
  (fun a b c=>iF P Γ H sl mem nx K Kp (.makeFunc a b c)) (fun a b=>iF P Γ H sl mem nx K Kp (.makeMap a b)) (fun a b=>iF P Γ H sl mem nx K Kp (.makeChan a b)) (fun a b c=>iF P Γ H sl mem nx K Kp (.makeSlice a b c))
  (fun a b c d e=>iF P Γ H sl mem nx K Kp (.slice a b c d e)) (Qd P Γ sl mem nx K) (Qi P Γ sl mem nx K) (Qf P Γ sl mem nx K) (Qh P Γ sl mem nx K) (Na P Γ sl mem nx K) (QB P Γ sl mem nx K)
  (fun a b c=>iF P Γ H sl mem nx K Kp (.mapEntry a b c)) (fun a b c d=>iF P Γ H sl mem nx K Kp (.entryStore a b c d)) (fun a b=>iF P Γ H sl mem nx K Kp (.range a b)) (fun a b=>iF P Γ H sl mem nx K Kp (.next a b)) (fun a=>iF P Γ H sl mem nx K Kp (.entry a))
  (fun a b c d=>iF P Γ H sl mem nx K Kp (.typeAssert a b c d)) (Qg Γ sl mem nx K) (PQ P Γ H sl mem nx K Kp) (fun c=>iF P Γ H sl mem nx K Kp (.go c)) (fun c=>iF P Γ H sl mem nx K Kp (.defer c)) (PD Γ sl mem nx Kp)
  (fun a b=>iF P Γ H sl mem nx K Kp (.send a b)) (fun a b c=>iF P Γ H sl mem nx K Kp (.recv a b c)) (fun a b=>iF P Γ H sl mem nx K Kp (.select a b)) op
theorem ON(op:Op):P3 P Γ H sl mem nx K Kp op=EZ true P Γ H sl mem nx op K Kp:=by
 cases op with
 | call c=>
  obtain⟨ce,args,ts⟩:=c;cases ce<;>rfl
 | pick c a b=>simp only[P3,NV,BO];first|done|rfl
 | convert a b c=>simp only[P3,NS,BO];first|done|rfl
 | _=>first|rfl|(simp only[P3,Jv,PL,Ni,Jx,PU,Pg,QY,Qd,Qi,Qf,Qh,Qg,Na,QB,PD,BO];first|done|rfl)
end
noncomputable def On(sl:List (Nat × AV))(nt:Nat)(d:Option Nat)(v:AV)(mem:aN)(nx:Nat)(K:St->Prop):Prop:=
 Option.rec (motive:=fun _=>Prop) (K ⟨sl,mem,nx,nt⟩) (fun d=>Bool.rec (motive:=fun _=>Prop) False (P8 sl d v fun sl=>K ⟨sl,mem,nx,nt⟩) (Nat.blt d nt)) d
theorem M5(sl:List (Nat × AV))(m0:aN)(n0 nt:Nat)(d:Option Nat)(v:AV)(mem:aN)(nx:Nat)(K:St->Prop):On sl nt d v mem nx K=lK ⟨sl,m0,n0,nt⟩ d v mem nx K:=by
 cases d with
 | none=>rfl
 | some d=>
  show Bool.rec (motive:=fun _=>Prop) False (P8 sl d v _) (Nat.blt d nt)=k9 (Nat.blt d nt) (ET sl d v _)
  rw[La];cases Nat.blt d nt<;>rfl
noncomputable def Ko(ops:List Oper)(sl:List (Nat × AV))(g:Option (Nat × Bool))(yes no:Prop):Prop:=
 Option.rec (motive:=fun _=>Prop) yes (fun p=>pG ops sl (some p) yes no) g
theorem K4(ops:List Oper)(sl:List (Nat × AV))(g:Option (Nat × Bool))(yes no:Prop):Ko ops sl g yes no=pG ops sl g yes no:=by cases g<;>rfl
section
variable (P:Program) (Γ:List (Nat × AV)) (H:Hk)
noncomputable def NY(ops:List Oper)(Kp:Value->St->Prop)(ih:St->Prop)(sl:List (Nat × AV))(mem:aN)(nx nt:Nat)(o:Oper):Prop:=
 Oper.rec (motive:=fun _=>Prop) (fun dst op _ _ _ g=>Ko ops sl g (P3 P Γ H sl mem nx (fun v mem nx=>On sl nt dst v mem nx ih) (fun x mem nx=>Kp x ⟨sl,mem,nx,nt⟩) op) (On sl nt dst (.tup []) mem nx ih)) o
noncomputable def MC(ops:List Oper)(K:St->Prop)(Kp:Value->St->Prop)(l:List Oper):St->Prop:=
 List.rec (motive:=fun _=>St->Prop) K (fun o r ih=>fun s=>St.rec (motive:=fun _=>Prop) (fun sl mem nx nt=>NY P Γ H ops Kp ih sl mem nx nt o) s) l
theorem IA(ops:List Oper)(K:St->Prop)(Kp:Value->St->Prop):∀(l:List Oper) (s:St),MC P Γ H ops K Kp l s=Fh true P Γ H ops l s K Kp
 | [],s=>rfl
 | o::r,s=>by
  have ih:MC P Γ H ops K Kp r=fun s=>Fh true P Γ H ops r s K Kp:=funext fun s=>IA ops K Kp r s
  obtain⟨sl,mem,nx,nt⟩:=s
  show NY P Γ H ops Kp (MC P Γ H ops K Kp r) sl mem nx nt o=_
  rw[ih];obtain⟨dst,op,ty,pos,aft,g⟩:=o
  show Ko ops sl g _ _=pG ops sl g _ _
  rw[K4,ON];simp only[M5 sl mem nx nt];first|done|rfl
def PP(k:St->Prop)(Q:Exit->St->Prop)(e:Exit)(s:St):Prop:=match e with
 | .normal=>k s
 | e=>Q e s
def QH(id:Nat)(Q:Exit->St->Prop)(e:Exit)(s:St):Prop:=match e with
 | .exit i=>match Nat.beq i id with
  | true=>Q .normal s
  | false=>Q (.exit i) s
 | e=>Q e s
def QD(Q:Exit->St->Prop)(e:Exit)(s:St):Prop:=match e with
 | .goto _=>False
 | e=>Q e s
def PO(x y:Prop)(v:AV):Prop:=match v with
 | .bool b=>Jc b x y
 | _=>False
noncomputable def QT(id:Nat)(ops:Array Oper)(draw:Bool)(s:St)(Q:Exit->St->Prop):Prop:=
 Bool.rec (motive:=fun _=>Prop) (MC P Γ H ops.toList (Q .normal) (fun x s'=>Q (.panic [pe x]) s') ops.toList s) (uU true P Γ H (.region id ops true) s Q) draw
noncomputable def QE(c:Operand)(x y:St->(Exit->St->Prop)->Prop)(s:St)(Q:Exit->St->Prop):Prop:=
 St.rec (motive:=fun _=>Prop) (fun sl _ _ _=>iY Γ sl c (PO (x s Q) (y s Q))) s
noncomputable def x7(c:Code):St->(Exit->St->Prop)->Prop:=
 Code.rec (motive:=fun _=>St->(Exit->St->Prop)->Prop)
  (fun s Q=>Q .normal s)
  (QT P Γ H)
  (fun _ _ ihx ihy=>fun s Q=>ihx s (PP (fun s'=>ihy s' Q) Q))
  (fun c _ _ ihx ihy=>QE Γ c ihx ihy)
  (fun id _ ih=>fun s Q=>ih s (QH id Q))
  (fun b _=>fun s Q=>H.loop b s Q)
  (fun g ps ca cb _ _=>fun s Q=>uU true P Γ H (.rangeFunc g ps ca cb) s Q)
  (fun i=>fun s Q=>Q (.exit i) s)
  (fun _ ih=>fun s Q=>ih s (QD Q))
  (fun _=>fun s Q=>Q .normal s)
  (fun _=>fun _ _=>False)
  (fun s Q=>Q .ret s)
  (fun _=>fun _ _=>False) c
theorem Gl:∀(c:Code) (s:St) (Q:Exit->St->Prop),x7 P Γ H c s Q=uU true P Γ H c s Q:=by
 intro c
 induction c with
 | seq x y ihx ihy=>
  intro s Q
  show x7 P Γ H x s (PP (fun s'=>x7 P Γ H y s' Q) Q)=_
  rw[ihx];have:(fun s'=>x7 P Γ H y s' Q)=fun s'=>uU true P Γ H y s' Q:=funext fun s'=>ihy s' Q
  rw[this];rfl
 | cond c x y ihx ihy=>
  intro s Q;obtain⟨sl,mem,nx,nt⟩:=s
  show iY Γ sl c (PO (x7 P Γ H x _ Q) (x7 P Γ H y _ Q))=_
  rw[ihx,ihy,IB];rfl
 | block id c ih=>intro s Q;exact ih s _
 | scope c ih=>intro s Q;exact ih s _
 | region id ops draw=>
  intro s Q;cases draw with
  | true=>rfl
  | false=>exact IA P Γ H _ _ _ _ s
 | _=>intro s Q;rfl
end
def Pf(F:Nat):List (Nat × List AV × AV)->Bool
 | []=>false
 | (G,_,_)::r=>match Nat.beq G F with
  | true=>true
  | false=>Pf F r
def QC(ts:List (Nat × List AV × AV))(F:Nat)(args:List AV)(mem:aN)(K:AV->Prop)(N:Prop):Prop:=match Pf F ts with
 | false=>N
 | true=>Fm (JW 60 mem) args (fun as'=>MJ ts F as' K N) N
theorem NW{F:Nat}{args:List AV}{K:AV->Prop}{N:Prop}:∀{tb:List (Nat × List AV × AV)},MJ tb F args K N->N∨∃r,(F,args,r)∈tb/\K r
 | [],h=>.inl h
 | (G,as',r)::t,h=>by
  simp only[MJ] at h;have hr:MJ t F args K N->N∨∃r',(F,args,r')∈(G,as',r)::t/\K r':=fun h=>(NW h).imp id fun⟨r',h1,h2⟩=>⟨r',RA _ h1,h2⟩
  split at h
  ·rename_i hG;split at h
   ·rename_i he;have e1:=Nat.eq_of_beq_eq_true hG;have e2:=fM he;subst e1 e2;exact .inr ⟨r,RP ..,h⟩
   ·exact hr h
  ·exact hr h
def m7(P:Program)(Γ:List (Nat × AV))(ts:List (Nat × List AV × AV)):Prop:=∀e∈ts,a7 P Γ e.1 e.2.1 e.2.2/\Sc e.2.2
theorem m7.nil{P:Program}{Γ:List (Nat × AV)}:m7 P Γ []:=fun e h=>by cases h
theorem m7.cons{P:Program}{Γ:List (Nat × AV)}{F:Nat}{xs:List AV}{r:AV}{t:List (Nat × List AV × AV)}(h:a7 P Γ F xs r)(h1:Sc r)(ht:m7 P Γ t):m7 P Γ ((F,xs,r)::t):=by
 intro e he;rcases Qw.1 he with rfl|he
 ·exact⟨h,h1⟩
 ·exact ht e he
theorem PV{P:Program}{Γ:List (Nat × AV)}(hΓ:∀p∈Γ,NN p.2){F:Nat}{args:List AV}{mem:aN}{nx:Nat}{K:AV->aN->Nat->Prop}{N:Prop}{ts:List (Nat × List AV × AV)}(ht:m7 P Γ ts)(h:QC ts F args mem (fun r=>K r mem nx) N):N∨aF P Γ F args mem nx K:=by
 unfold QC at h;split at h
 ·exact .inl h
 ·rcases wG (fun v K h=>L2 60 v K h) h with h|⟨as',h1,h⟩
  ·exact .inl h
  ·rcases NW h with h|⟨r,h2,h⟩
   ·exact .inl h
   ·obtain⟨g1,g2⟩:=ht _ h2;exact .inr (g1.lend hΓ (Mh 60 h1) g2 h)
def Mo:List (AV × AV)->List (AV × AV)->Bool
 | [],[]=>true
 | (a,b)::r,(c,d)::t=>gX a c && (gX b d && Mo r t)
 | _,_=>false
theorem Ha:∀{l m:List (AV × AV)},Mo l m=true->l=m
 | [],[],_=>rfl
 | (a,b)::r,(c,d)::t,h=>by
  simp only[Mo,Qt] at h;rw[lO h.1,lO h.2.1,Ha h.2.2]
 | [],_::_,h=>by cases h
 | _::_,[],h=>by cases h
def EA:aN->aN->Bool
 | [],[]=>true
 | (i,a)::r,(j,b)::t=>Nat.beq i j && ((match a,b with
  | .row t1 s1 xs,.row t2 s2 ys=>Nat.beq t1 t2 && (Nat.beq s1 s2 && kR xs ys)
  | .mapb es,.mapb es'=>Mo es es'
  | _,_=>false) && EA r t)
 | _,_=>false
theorem Af:∀{l m:aN},EA l m=true->l=m
 | [],[],_=>rfl
 | (i,a)::r,(j,b)::t,h=>by
  simp only[EA,Qt] at h;obtain⟨h1,h2,h3⟩:=h;rw[Nat.eq_of_beq_eq_true h1,Af h3];split at h2
  ·simp only[Qt] at h2;rw[Nat.eq_of_beq_eq_true h2.1,Nat.eq_of_beq_eq_true h2.2.1,fM h2.2.2]
  ·rw[Ha h2]
  ·cases h2
 | [],_::_,h=>by cases h
 | _::_,[],h=>by cases h
structure Xf where
 F:Nat
 args:List AV
 mem:aN
 nx:Nat
 r:AV
 m:aN
 n:Nat
def Xf.ok(P:Program)(Γ:List (Nat × AV))(x:Xf):Prop:=aF P Γ x.F x.args x.mem x.nx fun r m n=>r=x.r/\m=x.m/\n=x.n
def Pq:List Xf->Nat->List AV->aN->Nat->(AV->aN->Nat->Prop)->Prop->Prop
 | [],_,_,_,_,_,N=>N
 | x::t,F,args,mem,nx,K,N=>match Nat.beq x.F F with
  | true=>match Nat.beq x.nx nx && (kR args x.args && EA mem x.mem) with
   | true=>K x.r x.m x.n
   | false=>Pq t F args mem nx K N
  | false=>Pq t F args mem nx K N
theorem LC{P:Program}{Γ:List (Nat × AV)}{F:Nat}{args:List AV}{mem:aN}{nx:Nat}{K:AV->aN->Nat->Prop}{N:Prop}:∀{t:List Xf},(∀x∈t,x.ok P Γ)->Pq t F args mem nx K N->N∨aF P Γ F args mem nx K
 | [],_,h=>.inl h
 | x::t,ht,h=>by
  have h2:∀x∈t,x.ok P Γ:=fun e he=>ht e (RA _ he)
  simp only[Pq] at h;split at h
  ·rename_i hF;split at h
   ·rename_i he;simp only[Qt] at he;have e1:=Nat.eq_of_beq_eq_true hF;have e2:=Nat.eq_of_beq_eq_true he.1;have e3:=fM he.2.1;have e4:=Af he.2.2;subst e1 e2 e3 e4;exact .inr ((ht x (RP ..)).mono fun r m n ⟨h1,h2,h3⟩=>by rw[h1,h2,h3];exact h)
   ·exact LC h2 h
  ·exact LC h2 h
def Fs(f:AV->List Nat->List Nat):List AV->List Nat->List Nat
 | [],acc=>acc
 | a::r,acc=>Fs f r (f a acc)
def yC:Nat->AV->List Nat->List Nat
 | 0,_,acc=>acc
 | n+1,v,acc=>match v with
  | .ptr id _ _=>id::acc
  | .sl id _ _=>id::acc
  | .mp id=>id::acc
  | .yld id=>id::acc
  | .ip v=>yC n v acc
  | .il _ xs=>Fs (yC n) xs acc
  | .fn _ a b=>Fs (yC n) b (Fs (yC n) a acc)
  | .ifc _ v=>yC n v acc
  | .agg xs=>Fs (yC n) xs acc
  | .tup xs=>Fs (yC n) xs acc
  | _=>acc
def O7:List (AV × AV)->List Nat->List Nat
 | [],acc=>acc
 | (a,b)::r,acc=>O7 r (yC 60 b (yC 60 a acc))
def PF:List (Nat × AV)->List Nat->List Nat
 | [],acc=>acc
 | (_,a)::r,acc=>PF r (yC 60 a acc)
def Pw(b:AB)(acc:List Nat):List Nat:=match b with
 | .row _ _ xs=>Fs (yC 60) xs acc
 | .mapb es=>O7 es acc
 | .loop sl _ _ _ _ _ _=>PF sl acc
def O8:aN->List Nat->List Nat
 | [],acc=>acc
 | (_,b)::r,acc=>O8 r (Pw b acc)
def K9(nx:Nat)(m:aN):Nat->List Nat->List Nat->List Nat
 | 0,todo,dH=>todo++dH
 | _+1,[],dH=>dH
 | f+1,i::t,dH=>match Nat.ble nx i with
  | false=>K9 nx m f t dH
  | true=>match I6 i dH with
   | true=>K9 nx m f t dH
   | false=>match lk m i with
    | none=>K9 nx m f t dH
    | some b=>K9 nx m f (Pw b t) (i::dH)
def Ey(dH:List Nat):aN->(aN->Prop)->Prop
 | [],K=>K []
 | (i,b)::r,K=>match I6 i dH with
  | true=>Ey dH r fun m=>K ((i,b)::m)
  | false=>Ey dH r K
def Qj(nx:Nat)(K:AV->aN->Nat->Prop)(r:AV)(m:aN)(n:Nat):Prop:=
 AD nx m [] fun m1 rest=>sZ (K9 nx m 100000 (yC 60 r (O8 rest [])) []) fun dH=>Ey dH m1.reverse fun m2=>yE m2 rest fun m=>K r m n
theorem Cq{dH:List Nat}:∀{m:aN} {K:aN->Prop},Ey dH m K->∃m',List.Sublist m' m/\K m'
 | [],K,h=>⟨[],.slnil,h⟩
 | (i,b)::r,K,h=>by
  simp only[Ey] at h;split at h
  ·obtain⟨m',h1,h2⟩:=Cq h;exact⟨_,h1.cons_cons _,h2⟩
  ·obtain⟨m',h1,h2⟩:=Cq h;exact⟨_,h1.cons _,h2⟩
theorem Iu{P:Program}{Γ:List (Nat × AV)}{F:FuncId}{args:List AV}{mem:aN}{nx:Nat}{K:AV->aN->Nat->Prop}{Kp:Value->aN->Nat->Prop}(h:dI P Γ F args mem nx (Qj nx K) Kp):dI P Γ F args mem nx K Kp:=by
 refine⟨fun X D ρ w vs hD hm hv=>(h.run X D ρ w vs hD hm hv).mono ?_⟩;rintro e w' ⟨m',n',ρ',hn,hm',hext,hend⟩;rcases hend with⟨r,v,rfl,hq,hr⟩|⟨x,rfl,hq⟩
 ·obtain⟨m0,rest,rfl,hq⟩:=z7 hq;rw[SP,List.reverse_reverse] at hq;obtain⟨m2,hs,hq⟩:=Cq (jE.1 hq);have hq:=fL.1 hq;have hsub:List.Sublist (m2++rest) (m0++rest):=hs.append (List.Sublist.refl rest);have hin:∀p∈m2++rest,p∈m0++rest:=fun p hp=>hsub.subset hp
  have hnd:((m2++rest).map (·.1)).Nodup:=hm'.nod.sublist (hsub.map _);have ho:∀b,¬OX X ρ' (m0++rest) b->¬OX X ρ' (m2++rest) b:=by
   rintro b h (h'|⟨p,hp,h1,h2⟩)
   ·exact h (.inl h')
   ·exact h (.inr ⟨p,hin p hp,h1,h2⟩)
  exact⟨m2++rest,n',ρ',hn,hm'.sub hin hnd,⟨hext.le,hext.agree,hext.size,hext.keep,fun p h=>hext.fresh p (hin p h),hext.env⟩,.inl ⟨r,v,rfl,hq,hr.mono (fun _ _=>rfl) (fun _ h=>h) fun b _ h=>⟨ho b h,rfl⟩⟩⟩
 ·exact⟨m',n',ρ',hn,hm',hext,.inr ⟨x,rfl,hq⟩⟩
theorem KR(P:Program)(Γ:List (Nat × AV))(H:Hk):x7 P Γ H=uU true P Γ H:=funext fun c=>funext fun s=>funext fun Q=>Gl P Γ H c s Q
noncomputable def K1(P:Program)(Γ:List (Nat × AV))(H:Hk)(tx:List Xf)(ts tb:List (Nat × List AV × AV))(dl pl gl:List Nat)(F:Nat)(args:List AV)(mem:aN)(nx:Nat)(K:AV->aN->Nat->Prop)(Kp:Value->aN->Nat->Prop):Prop:=
 Pq tx F args mem nx K (MJ tb F args (fun r=>K r mem nx) (QC ts F args mem (fun r=>K r mem nx) (match Nat.beq F YF with
    | false=>match P.funcs[F]? with
     | some fn=>match fn.body with
      | some c=>match I6 F dl with
       | false=>match I6 F pl with
        | false=>match I6 F gl with
         | false=>tX fn.ntmps args mem nx fun s=>x7 P Γ H c s (EX P fn.results.toList K Kp)
         | true=>tX fn.ntmps args mem nx fun s=>x7 P Γ H c s (EX P fn.results.toList (Qj nx K) Kp)
        | true=>tX fn.ntmps args mem nx fun s=>x7 P Γ H c s (EX P fn.results.toList (Qa nx K) Kp)
       | true=>tX fn.ntmps args mem nx fun s=>Fi true P Γ H c s (J6 P Γ H fn.results.toList K Kp)
      | none=>False
     | none=>False
    | true=>GD P Γ H args mem nx K)))
def Pp(H:Hk)(c:Code)(Q:Exit->St->Prop)(e:Exit)(s':St):Prop:=match e with
 | .normal=>H.loop c s' Q
 | e=>Q e s'
noncomputable def vR(P:Program)(Γ:List (Nat × AV))(tx:List Xf)(ts tb:List (Nat × List AV × AV))(dl pl gl:List Nat)(n:Nat):Hk:=
 Nat.rec (motive:=fun _=>Hk) ⟨fun _ _ _ _ _ _=>False,fun _ _ _=>False⟩ (fun _ H=>⟨K1 P Γ H tx ts tb dl pl gl,fun c s Q=>x7 P Γ H c s (Pp H c Q)⟩) n
theorem FQ(P:Program)(Γ:List (Nat × AV))(hΓ:∀p∈Γ,NN p.2){tx:List Xf}{ts tb:List (Nat × List AV × AV)}(hx':∀x∈tx,x.ok P Γ)(hs':m7 P Γ ts)(ht:lI P Γ tb)(dl pl gl:List Nat):∀n B,uS P Γ B (vR P Γ tx ts tb dl pl gl n) /\
  ∀c s Q,(vR P Γ tx ts tb dl pl gl n).loop c s Q->∀rd X ds D ρ a w,(∀i,D i->i<B)->SR Γ X ds ρ (dn D B s.nx) s a w->B<=s.nx->x5 rd ds c ->
   Code.roundsIn (FW rd) 0 P c (fun e a' w'=>∃(s':St) (ρ':Nat->bY),Q e s'/\B<=s'.nx/\SR Γ X ds ρ' (dn D B s'.nx) s' a' w'/\Ext D ρ s.mem w ρ' (dn D B s'.nx) s'.mem w') n a w:=by
 intro n
 induction n with
 | zero=>exact fun B=>⟨⟨fun _ _ _ _ _ _ h=>h.elim,fun _ _ _ h=>h.elim⟩,fun _ _ _ h=>h.elim⟩
 | succ n ih=>
  intro B;have hr:∀c s Q,(vR P Γ tx ts tb dl pl gl (n+1)).loop c s Q->∀rd X ds D ρ a w,(∀i,D i->i<B)->SR Γ X ds ρ (dn D B s.nx) s a w->B<=s.nx->x5 rd ds c ->
    Code.roundsIn (FW rd) 0 P c (fun e a' w'=>∃(s':St) (ρ':Nat->bY),Q e s'/\B<=s'.nx/\SR Γ X ds ρ' (dn D B s'.nx) s' a' w'/\Ext D ρ s.mem w ρ' (dn D B s'.nx) s'.mem w') (n+1) a w:=by
   intro c s Q h rd X ds D ρ a w hD hs hB hno;have h:x7 P Γ (vR P Γ tx ts tb dl pl gl n) c s (Pp (vR P Γ tx ts tb dl pl gl n) c Q):=h;rw[Gl] at h;have h':=(cT (ih B).1 c s _ h).run rd X ds D ρ a w hD hs hB hno;rw[roundsIn_succ];refine wpIn_mono h' ?_;rintro e a1 w1 ⟨s1,ρ1,hq,hB1,hs1,hext⟩;cases e with
   | normal=>
    have key:=(ih B).2 c s1 Q hq rd X ds D ρ1 a1 w1 hD hs1 hB1 hno;refine xX n a1 w1 _ _ ?_ key;rintro e a2 w2 ⟨s2,ρ2,h1,h2,h3,h4⟩;exact⟨s2,ρ2,h1,h2,h3,hext.trans h4⟩
   | exit id=>exact⟨s1,ρ1,hq,hB1,hs1,hext⟩
   | goto l=>exact⟨s1,ρ1,hq,hB1,hs1,hext⟩
   | ret=>exact⟨s1,ρ1,hq,hB1,hs1,hext⟩
   | panic ch=>exact⟨s1,ρ1,hq,hB1,hs1,hext⟩
   | outgrown=>exact⟨s1,ρ1,hq,hB1,hs1,hext⟩
  refine⟨⟨fun F args mem nx K Kp h=>?_,fun c s Q h=>⟨fun rd X ds D ρ a w hD hs hB hno=>wpIn_loop_rounds (n+1) (hr c s Q h rd X ds D ρ a w hD hs hB hno.loop)⟩⟩,hr⟩
  replace h:K1 P Γ (vR P Γ tx ts tb dl pl gl n) tx ts tb dl pl gl F args mem nx K Kp:=h
  simp only[K1,KR] at h;rcases LC (K:=K) hx' h with h0|h'
  rotate_left
  ·exact h'.toP
  clear h;rcases KE (K:=K) hΓ ht h0 with h'|h'
  rotate_left
  ·exact h'.toP
  clear h0;rcases PV (K:=K) hΓ hs' h' with h|h'
  rotate_left
  ·exact h'.toP
  split at h
  ·rename_i hF;split at h
   ·rename_i fn hf;split at h
    ·rename_i c hc;split at h
     ·split at h
      ·split at h
       ·exact kU hf hc ((cT (ih nx).1 _ _ _ (i5 h)).mono fun _ _ h=>DB h) hF
       ·exact Iu (kU hf hc ((cT (ih nx).1 _ _ _ (i5 h)).mono fun _ _ h=>DB h) hF)
      ·exact KO hΓ (kU hf hc ((cT (ih nx).1 _ _ _ (i5 h)).mono fun _ _ h=>DB h) hF)
     ·exact yF hf hc (Fy (fun B=>(ih B).1) nx _ _ _ (i5 h)) hF
    ·exact h.elim
   ·exact h.elim
  ·rename_i hF;have e:=Nat.eq_of_beq_eq_true hF;subst e;exact Cz (fun B=>(ih B).1) h
theorem pV{P:Program}{Γ:List (Nat × AV)}(hΓ:∀p∈Γ,NN p.2){tx:List Xf}{ts tb:List (Nat × List AV × AV)}(hx':∀x∈tx,x.ok P Γ)(hs':m7 P Γ ts)(ht:lI P Γ tb){F:FuncId}{args:List AV}{mem:aN}{nx:Nat}{Q:AV->aN->Nat->Prop}(dl pl gl:List Nat)(n:Nat)(h:(vR P Γ tx ts tb dl pl gl n).call F args mem nx Q fun _ _ _=>False):aF P Γ F args mem nx Q:=
 ((FQ P Γ hΓ hx' hs' ht dl pl gl n nx).1.call F args mem nx Q _ h).toC fun _ _ _ h=>h
theorem sI{P:Program}{Γ:List (Nat × AV)}{F:FuncId}{args:List AV}{mem:aN}{nx:Nat}{want:AV}(hΓ:∀p∈Γ,NN p.2){tx:List Xf}{ts tb:List (Nat × List AV × AV)}(hx':∀x∈tx,x.ok P Γ)(hs':m7 P Γ ts)(ht:lI P Γ tb)(dl pl gl:List Nat)(n:Nat)
  (hc:(uG (NT mem) && (t8 mem && (xJ nx nx (NT mem) && Nat.ble nx nx)))=true)
  (h:((vR P Γ tx ts tb dl pl gl n).call F args mem nx (fun r m _=>QX mem want r m) fun _ _ _=>False)=True):aF P Γ F args mem nx fun r m k=>r=want/\m=mem/\k=nx:=by
 refine aF.turn hΓ ((pV hΓ hx' hs' ht dl pl gl n (by rw[h];trivial)).mono fun r m k hk=>?_);unfold QX at hk;split at hk
 ·rename_i hb;unfold QZ at hb;split at hb
  ·rename_i v hv;split at hb
   ·rename_i he;have e:=lO he;subst e;have hn:(mem.map (·.1)).Nodup:=by
     simp only[Qt] at hc;exact dR hc.2.1
    exact b8 (NT mem) hc (xL _ hb (MP hn)) (i7 30 r v hv).cv ⟨rfl,rfl,rfl⟩
   ·cases hb
  ·cases hb
 ·exact hk.elim
def Qe(x:Xf)(r:AV)(m:aN)(n:Nat):Prop:=match Nat.beq n x.n && (gX r x.r && EA m x.m) with
 | true=>True
 | false=>False
theorem iJ{P:Program}{Γ:List (Nat × AV)}(x:Xf)(hΓ:∀p∈Γ,NN p.2){tx:List Xf}{ts tb:List (Nat × List AV × AV)}(hx':∀x∈tx,x.ok P Γ)(hs':m7 P Γ ts)(ht:lI P Γ tb)(dl pl gl:List Nat)(n:Nat)
  (h:((vR P Γ tx ts tb dl pl gl n).call x.F x.args x.mem x.nx (Qe x) fun _ _ _=>False)=True):x.ok P Γ:=by
 refine(pV hΓ hx' hs' ht dl pl gl n (by rw[h];trivial)).mono fun r m k hk=>?_
 unfold Qe at hk;split at hk
 ·rename_i hb;simp only[Qt] at hb;exact⟨lO hb.2.1,Af hb.2.2,Nat.eq_of_beq_eq_true hb.1⟩
 ·exact hk.elim
theorem Oi{P:Program}{Γ:List (Nat × AV)}:∀x∈([]:List Xf),x.ok P Γ:=fun x h=>by cases h
theorem qB{P:Program}{Γ:List (Nat × AV)}{x:Xf}{t:List Xf}(h:x.ok P Γ)(ht:∀x∈t,x.ok P Γ):∀y∈x::t,y.ok P Γ:=fun y hy=>by
 rcases Qw.1 hy with rfl|hy
 ·exact h
 ·exact ht y hy
end Go.Ax
