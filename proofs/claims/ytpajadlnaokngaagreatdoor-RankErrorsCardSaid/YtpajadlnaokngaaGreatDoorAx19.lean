/- A part of the proof. -/
import Derived.Test.YtpajadlnaokngaaGreatDoorAx18
set_option linter.unusedVariables false
set_option linter.unusedSimpArgs false
set_option linter.unusedSectionVars false
namespace Go.Proofs.YtpajadlnaokngaaGreatDoor
open Go Go.Ax Go.Proofs Tryz
theorem dB:∀p∈gz,NN p.2:=fun p hp=>by
 simp only[gz,Mj,List.not_mem_nil,or_false] at hp;rcases hp with rfl|rfl|rfl
 ·exact nn
 ·exact nn
 ·exact nn
end Go.Proofs.YtpajadlnaokngaaGreatDoor
namespace Go.Ax
open Go
def sA(f:AV->Option AV):List AV->Option (List AV)
 | []=>some []
 | a::r=>match f a with
  | none=>none
  | some b=>match sA f r with
   | none=>none
   | some t=>some (b::t)
def frz:Nat->List (Nat × Nat)->aK->AV->Option AV
 | 0,_,_,_=>none
 | n+1,σ,m,v=>match v with
  | .bool b=>some (.bool b)
  | .int k i=>some (.int k i)
  | .str s=>some (.str s)
  | .nptr=>some .nptr
  | .nsl=>some .nsl
  | .nmap=>some .nmap
  | .nfn=>some .nfn
  | .nif=>some .nif
  | .sl id off len=>match lk σ id with
   | none=>match lk m id with
    | some (.row t sz xs)=>match Nat.ble (off+len) xs.length with
     | true=>match sA (frz n σ m) ((xs.drop off).take len) with
      | some ys=>some (.il sz ys)
      | none=>none
     | false=>none
    | _=>none
   | some _=>none
  | .il sz xs=>match sA (frz n σ m) xs with
   | some ys=>some (.il sz ys)
   | none=>none
  | .ifc t v=>match frz n σ m v with
   | some v'=>some (.ifc t v')
   | none=>none
  | .agg cs=>match sA (frz n σ m) cs with
   | some ys=>some (.agg ys)
   | none=>none
  | .tup cs=>match sA (frz n σ m) cs with
   | some ys=>some (.tup ys)
   | none=>none
  | _=>none
structure rM(m:aK)(σ:List (Nat × Nat))(v v':AV):Prop where
 cv:Cv m σ v v'
 nn:NN v'
 ce:kZ m σ v.cells v'.cells
theorem rM.len{m:aK}{σ:List (Nat × Nat)}{v v':AV}(h:rM m σ v v'):v.cells.length=v'.cells.length:=h.ce.1
theorem f7{m:aK}{σ:List (Nat × Nat)}{f:AV->Option AV}(hf:∀v v',f v=some v'->rM m σ v v'):∀{l l':List AV},sA f l=some l'->l.length=l'.length/\∀(j:Nat) (a b:AV),l[j]? = some a->l'[j]? = some b->rM m σ a b
 | [],l',h=>by simp only[sA] at h;cases h;exact⟨rfl,fun j a b h=>by simp at h⟩
 | a::r,l',h=>by
  simp only[sA] at h;split at h
  ·cases h
  ·rename_i b hb;split at h
   ·cases h
   ·rename_i t ht;cases h;obtain⟨h1,h2⟩:=f7 hf ht;refine⟨by simp[h1],fun j x y hx hy=>?_⟩;cases j with
    | zero=>simp at hx hy;subst hx hy;exact hf _ _ hb
    | succ j=>simp at hx hy;exact h2 j x y hx hy
theorem pI{m:aK}{σ:List (Nat × Nat)}{l l':List AV}(h1:l.length=l'.length)(h2:∀(j:Nat) (a b:AV),l[j]? = some a->l'[j]? = some b->rM m σ a b):jK l':=fun b hb=>by
 obtain⟨j,hj⟩:=M9 hb;obtain⟨a,ha⟩:=cL h1 hj;exact(h2 j a b ha hj).nn
theorem rM.one{m:aK}{σ:List (Nat × Nat)}{v v':AV}(h1:v.cells=[v])(h2:v'.cells=[v'])(hc:Cv m σ v v')(hn:NN v'):rM m σ v v':=
 ⟨hc,hn,by rw[h1,h2];exact kZ.cons hc .nil⟩
theorem g8{m:aK}{σ:List (Nat × Nat)}:∀(n:Nat) (v v':AV),frz n σ m v=some v'->rM m σ v v'
 | 0,v,v',h=>by simp[frz] at h
 | n+1,v,v',h=>by
  have ih:=g8 (m:=m) (σ:=σ) n;cases v with
  | bool b=>simp only[frz] at h;cases h;exact .one rfl rfl (.same _ (.bool b)) (.bool b)
  | int k i=>simp only[frz] at h;cases h;exact .one rfl rfl (.same _ (.int k i)) (.int k i)
  | str s=>simp only[frz] at h;cases h;exact .one rfl rfl (.same _ (.str s)) (.str s)
  | nptr=>simp only[frz] at h;cases h;exact .one rfl rfl (.same _ .nptr) .nptr
  | nsl=>simp only[frz] at h;cases h;exact .one rfl rfl (.same _ .nsl) .nsl
  | nmap=>simp only[frz] at h;cases h;exact .one rfl rfl (.same _ .nmap) .nmap
  | nfn=>simp only[frz] at h;cases h;exact .one rfl rfl (.same _ .nfn) .nfn
  | nif=>simp only[frz] at h;cases h;exact .one rfl rfl (.same _ .nif) .nif
  | ptr id i j=>simp[frz] at h
  | mp id=>simp[frz] at h
  | ip v=>simp[frz] at h
  | fn f a b=>simp[frz] at h
  | junk=>simp[frz] at h
  | yld id=>simp[frz] at h
  | sl id off len=>
   simp only[frz] at h;split at h
   ·rename_i hs;split at h
    ·rename_i t sz xs hx;split at h
     ·rename_i hle;split at h
      ·rename_i ys hy;cases h;have hle:=Mh hle;obtain⟨h1,h2⟩:=f7 ih hy;have hget:∀(i:Nat) (x y:AV),xs[off+i]? = some x->ys[i]? = some y->rM m σ x y:=fun i x y hx hy=>by
        refine h2 i x y ?_ hy;have hlt:i<ys.length:=(Mi.1 hy).1;rw[←h1] at hlt;rw[NA,Mr (by simp at hlt;omega),NI];exact hx
       refine .one rfl rfl (.fz id off len t sz xs ys hx hs hle (by rw[←h1];simp;omega) (fun i x y hx hy=>(hget i x y hx hy).len) fun i x y j c c' hx hy hc hc'=>(hget i x y hx hy).ce.2 j c c' hc hc') ?_;exact NN.il' (pI h1 h2)
      ·cases h
     ·cases h
    ·cases h
   ·cases h
  | il sz xs=>
   simp only[frz] at h;split at h
   ·rename_i ys hy;cases h;obtain⟨h1,h2⟩:=f7 ih hy;refine .one rfl rfl (.il sz xs ys h1 (fun i x y hx hy=>(h2 i x y hx hy).len) fun i x y j c c' hx hy hc hc'=>(h2 i x y hx hy).ce.2 j c c' hc hc') ?_;exact NN.il' (pI h1 h2)
   ·cases h
  | ifc t v=>
   simp only[frz] at h;split at h
   ·rename_i v' hv;cases h;exact .one rfl rfl (.ifc t v v' (ih v v' hv).cv) (.ifc t v' (ih v v' hv).nn)
   ·cases h
  | agg cs=>
   simp only[frz] at h;split at h
   ·rename_i ys hy;cases h;obtain⟨h1,h2⟩:=f7 ih hy;have hl:kZ m σ cs ys:=⟨h1,fun j c c' hc hc'=>(h2 j c c' hc hc').cv⟩
    exact⟨.agg' hl,.agg' (pI h1 h2),hl⟩
   ·cases h
  | tup cs=>
   simp only[frz] at h;split at h
   ·rename_i ys hy;cases h;obtain⟨h1,h2⟩:=f7 ih hy;have hl:kZ m σ cs ys:=⟨h1,fun j c c' hc hc'=>(h2 j c c' hc hc').cv⟩
    exact .one rfl rfl (.tup' hl) (.tup' (pI h1 h2))
   ·cases h
theorem JU{m:aK}{args bs:List AV}(n:Nat)(h:sA (frz n [] m) args=some bs):kZ m [] args bs:=by
 obtain⟨h1,h2⟩:=f7 (g8 n) h;exact⟨h1,fun j c c' hc hc'=>(h2 j c c' hc hc').cv⟩
def ID:aK->List (Nat × Nat)
 | []=>[]
 | (i,_)::r=>(i,i)::ID r
theorem Ju{mem:aK}:∀{i:Nat} {b:AB},lk mem i=some b->lk (ID mem) i=some i:=by
 induction mem with
 | nil=>intro i b h;simp[lk] at h
 | cons p r ih=>
  intro i b h;obtain⟨j,u⟩:=p;simp only[lk] at h;simp only[ID,lk];split at h
  ·rename_i e;rw[Nat.eq_of_beq_eq_true e]
  ·exact ih h
def Em(m:aK):aK->Bool
 | []=>true
 | (i,b)::r=>(match b with
  | .row t sz xs=>match lk m i with
   | some (.row t' sz' xs')=>match sA (frz 30 [] []) xs with
    | some ys=>Nat.beq t t' && (Nat.beq sz sz' && (kM xs' xs && kM ys xs))
    | none=>false
   | _=>false
  | _=>false) && Em m r
theorem oU{m:aK}(σ:List (Nat × Nat)):∀{mem:aK},Em m mem=true->(∀p∈mem,lk σ p.1=some p.1)->cX m σ mem
 | [],h,hs=>trivial
 | (i,b)::r,h,hs=>by
  simp only[Em,Mg] at h;refine⟨?_,oU σ h.2 fun p hp=>hs p (Mw _ hp)⟩;have h:=h.1;split at h
  ·rename_i t sz xs;split at h
   ·rename_i t' sz' xs' hl;split at h
    ·rename_i ys hy;simp only[Mg] at h;obtain⟨h1,h2,h3,h4⟩:=h;have e1:=Nat.eq_of_beq_eq_true h1;have e2:=Nat.eq_of_beq_eq_true h2;have e3:=fJ h3;have e4:=fJ h4;subst e1 e2 e3 e4;obtain⟨g1,g2⟩:=f7 (g8 30) hy;exact⟨i,ys,hs _ (M8 ..),hl,.same (pI g1 g2)⟩
    ·cases h
   ·cases h
  ·cases h
def Lw(mem:aK)(want r:AV)(m:aK):Bool:=
 match frz 30 (ID mem) m r with
 | some v=>match hZ v want with
  | true=>Em m mem
  | false=>false
 | none=>false
def Ls(mem:aK)(want r:AV)(m:aK):Prop:=
 match Lw mem want r m with
 | true=>True
 | false=>False
theorem FL:∀{mem:aK},(mem.map (·.1)).Nodup->∀p∈mem,lk (ID mem) p.1=some p.1:=by
 intro mem hn p hp;have:∃b,lk mem p.1=some b:=by
  clear hn
  induction mem with
  | nil=>cases hp
  | cons q r ih=>
   obtain⟨j,u⟩:=q;simp only[lk];split
   ·exact⟨u,rfl⟩
   ·rename_i e;rcases Mj.1 hp with rfl|hp
    ·simp at e
    ·exact ih hp
 obtain⟨b,hb⟩:=this;exact Ju hb
def vP(nx:Nat):aK->aK->(aK->aK->Prop)->Prop
 | [],acc,K=>K acc []
 | (i,b)::r,acc,K=>match Nat.ble nx i with
  | true=>vP nx r ((i,b)::acc) K
  | false=>K acc ((i,b)::r)
def Du(f:AV->(AV->Prop)->Prop->Prop):List AV->(List AV->Prop)->Prop->Prop
 | [],K,_=>K []
 | a::r,K,N=>f a (fun b=>Du f r (fun t=>K (b::t)) N) N
def F5:Nat->aK->AV->(AV->Prop)->Prop->Prop
 | 0,_,_,_,N=>N
 | n+1,m,v,K,N=>match v with
  | .bool b=>K (.bool b)
  | .int k i=>K (.int k i)
  | .str s=>K (.str s)
  | .nptr=>K .nptr
  | .nsl=>K .nsl
  | .nmap=>K .nmap
  | .nfn=>K .nfn
  | .nif=>K .nif
  | .sl id off len=>match lk m id with
   | some (.row t sz xs)=>match Nat.ble (off+len) xs.length with
    | true=>Du (F5 n m) ((xs.drop off).take len) (fun ys=>K (.il sz ys)) N
    | false=>N
   | _=>N
  | .il sz xs=>Du (F5 n m) xs (fun ys=>K (.il sz ys)) N
  | .ifc t v=>F5 n m v (fun v'=>K (.ifc t v')) N
  | .agg cs=>Du (F5 n m) cs (fun ys=>K (.agg ys)) N
  | .tup cs=>Du (F5 n m) cs (fun ys=>K (.tup ys)) N
  | _=>N
theorem tY{f:AV->(AV->Prop)->Prop->Prop}{g:AV->Option AV}{N:Prop}(hf:∀v K,f v K N->N∨∃v',g v=some v'/\K v'):∀{l:List AV} {K:List AV->Prop},Du f l K N->N∨∃l',sA g l=some l'/\K l'
 | [],K,h=>.inr ⟨[],rfl,h⟩
 | a::r,K,h=>by
  rcases hf a _ h with h|⟨b,h1,h⟩
  ·exact .inl h
  ·rcases tY hf h with h|⟨t,h2,h⟩
   ·exact .inl h
   ·exact .inr ⟨b::t,by simp only[sA,h1,h2],h⟩
theorem Gh{m:aK}{N:Prop}:∀(n:Nat) (v:AV) (K:AV->Prop),F5 n m v K N->N∨∃v',frz n [] m v=some v'/\K v'
 | 0,v,K,h=>.inl h
 | n+1,v,K,h=>by
  have ih:=Gh (m:=m) (N:=N) n;cases v with
  | bool b=>exact .inr ⟨_,rfl,h⟩
  | int k i=>exact .inr ⟨_,rfl,h⟩
  | str s=>exact .inr ⟨_,rfl,h⟩
  | nptr=>exact .inr ⟨_,rfl,h⟩
  | nsl=>exact .inr ⟨_,rfl,h⟩
  | nmap=>exact .inr ⟨_,rfl,h⟩
  | nfn=>exact .inr ⟨_,rfl,h⟩
  | nif=>exact .inr ⟨_,rfl,h⟩
  | ptr id i j=>exact .inl h
  | mp id=>exact .inl h
  | ip v=>exact .inl h
  | fn f a b=>exact .inl h
  | junk=>exact .inl h
  | yld id=>exact .inl h
  | sl id off len=>
   simp only[F5] at h;split at h
   ·rename_i t sz xs hx;split at h
    ·rename_i hle;rcases tY ih h with h|⟨ys,h1,h⟩
     ·exact .inl h
     ·exact .inr ⟨_,by simp only[frz,lk,hx,hle,h1],h⟩
    ·exact .inl h
   ·exact .inl h
  | il sz xs=>
   simp only[F5] at h;rcases tY ih h with h|⟨ys,h1,h⟩
   ·exact .inl h
   ·exact .inr ⟨_,by simp only[frz,h1],h⟩
  | ifc t v=>
   simp only[F5] at h;rcases ih v _ h with h|⟨v',h1,h⟩
   ·exact .inl h
   ·exact .inr ⟨_,by simp only[frz,h1],h⟩
  | agg cs=>
   simp only[F5] at h;rcases tY ih h with h|⟨ys,h1,h⟩
   ·exact .inl h
   ·exact .inr ⟨_,by simp only[frz,h1],h⟩
  | tup cs=>
   simp only[F5] at h;rcases tY ih h with h|⟨ys,h1,h⟩
   ·exact .inl h
   ·exact .inr ⟨_,by simp only[frz,h1],h⟩
def MK(nx:Nat)(K:AV->aK->Nat->Prop)(r:AV)(m:aK)(n:Nat):Prop:=
 vP nx m [] fun m1 rest=>F5 60 m1 r (fun r'=>K r' rest n) (K r m n)
theorem yL{nx:Nat}:∀{m acc:aK} {K:aK->aK->Prop},vP nx m acc K->∃m0 rest,m=m0++rest/\K (m0.reverse++acc) rest
 | [],acc,K,h=>⟨[],[],rfl,h⟩
 | (i,b)::r,acc,K,h=>by
  simp only[vP] at h;split at h
  ·obtain⟨m0,rest,h1,h2⟩:=yL h;exact⟨(i,b)::m0,rest,by rw[h1];rfl,by simpa using h2⟩
  ·exact⟨[],(i,b)::r,rfl,h⟩
theorem MR.sub{Γ:List (Nat × AV)}{X:Nat->Prop}{ρ:Nat->b8}{D:Nat->Prop}{mem rest:aK}{w:World}(hm:MR Γ X ρ D mem w)(hs:∀p∈rest,p∈mem)(hn:(rest.map (·.1)).Nodup):MR Γ X ρ D rest w:=by
 have ho:∀b,¬OX X ρ mem b->¬OX X ρ rest b:=by
  rintro b h (h'|⟨p,hp,h1,h2⟩)
  ·exact h (.inl h')
  ·exact h (.inr ⟨p,hs p hp,h1,h2⟩)
 refine⟨fun p h=>hm.low p (hs p h),fun p h hn=>?_,fun p h=>hm.emp p (hs p h),fun p h q h'=>hm.inj p (hs p h) q (hs q h'),hn,fun b hb=>⟨(hm.bar b hb).1,fun⟨p,hp,h1,h2⟩=>(hm.bar b hb).2 ⟨p,hs p hp,h1,h2⟩⟩,fun p h=>(hm.glo p h).mono (fun _ _=>rfl) (fun _ h=>h) fun b _ h=>⟨ho b h,rfl⟩⟩;obtain⟨o,h1,h2⟩:=hm.blk p (hs p h) hn;exact⟨o,h1,h2.mono (fun _ _=>rfl) (fun _ h=>h) fun b _ h=>⟨ho b h,rfl⟩⟩
theorem Ck{P:Program}{Γ:List (Nat × AV)}(hΓ:∀p∈Γ,NN p.2){F:FuncId}{args:List AV}{mem:aK}{nx:Nat}{K:AV->aK->Nat->Prop}{Kp:Value->aK->Nat->Prop}(h:dN P Γ F args mem nx (MK nx K) Kp):dN P Γ F args mem nx K Kp:=by
 refine⟨fun X D ρ w vs hD hm hv=>(h.run X D ρ w vs hD hm hv).mono ?_⟩;rintro e w' ⟨m',n',ρ',hn,hm',hext,hend⟩;rcases hend with⟨r,v,rfl,hq,hr⟩|⟨x,rfl,hq⟩
 ·obtain⟨m0,rest,rfl,hq⟩:=yL hq;rw[N9] at hq;rcases Gh 60 r _ hq with hq|⟨r',h1,hq⟩
  ·exact⟨_,n',ρ',hn,hm',hext,.inl ⟨r,v,rfl,hq,hr⟩⟩
  ·have hnd:=hm'.nod;rw[OF,OG] at hnd;obtain⟨d1,d2,d3⟩:=hnd;have hp:qE (m0++rest) m0.reverse rest:=⟨fun p h=>M3 _ (Ou.1 h),fun p h=>NZ _ h,fun p h=>by
    rcases Mv.1 h with h|h
    ·exact .inl (Ou.2 h)
    ·exact .inr h,fun p h1 q h2=>d3 _ (Mz.2 ⟨p,Ou.1 h1,rfl⟩) _ (Mz.2 ⟨q,h2,rfl⟩),by
    rw[List.map_reverse];exact List.pairwise_reverse.2 (d1.imp fun h=>Ne.symm h)⟩
   obtain⟨p1,pv⟩:=hm'.part hp;have hF:=g8 (m:=m0.reverse) (σ:=[]) 60 r r' h1;obtain⟨-,v1,-⟩:=yH (σ:=[]) (m':=[]) (n':=n') hΓ hD p1 (fun p hp=>by cases hp) Ox (fun i j k h=>by simp[lk] at h) (fun i j h=>by simp[lk] at h);have e:jI [] ρ' ρ'=ρ':=funext fun i=>tD (by rintro⟨j,h⟩;simp[lk] at h)
   have hv':=v1 r r' hF.cv v (pv _ _ hr);rw[e] at hv';refine⟨rest,n',ρ',hn,hm'.sub (fun p h=>NZ _ h) d2,⟨hext.le,hext.agree,hext.size,hext.keep,fun p h=>hext.fresh p (NZ _ h),hext.env⟩,.inl ⟨r',v,rfl,hq,hv'.mono (fun _ _=>rfl) (fun _ h=>h) fun b _ ho=>⟨fun h=>ho (.inl ?_),rfl⟩⟩⟩;exact h
 ·exact⟨m',n',ρ',hn,hm',hext,.inr ⟨x,rfl,hq⟩⟩
def IQ:List (Nat × List AV × AV)->Nat->List AV->(AV->Prop)->Prop->Prop
 | [],_,_,_,N=>N
 | (G,as',r)::t,F,args,K,N=>match Nat.beq G F with
  | true=>match kM args as' with
   | true=>K r
   | false=>IQ t F args K N
  | false=>IQ t F args K N
def cQ(P:Program)(Γ:List (Nat × AV))(tb:List (Nat × List AV × AV)):Prop:=∀e∈tb,aZ P Γ e.1 e.2.1 e.2.2/\jK e.2.1/\NN e.2.2
theorem En{P:Program}{Γ:List (Nat × AV)}(hΓ:∀p∈Γ,NN p.2){F:Nat}{args:List AV}{mem:aK}{nx:Nat}{K:AV->aK->Nat->Prop}{N:Prop}:∀{tb:List (Nat × List AV × AV)},cQ P Γ tb->IQ tb F args (fun r=>K r mem nx) N->N∨aF P Γ F args mem nx K
 | [],_,h=>.inl h
 | (G,as',r)::t,ht,h=>by
  have h2:cQ P Γ t:=fun e he=>ht e (Mw _ he)
  simp only[IQ] at h;split at h
  ·rename_i hG;split at h
   ·rename_i he;have e1:=Nat.eq_of_beq_eq_true hG;have e2:=fJ he;subst e1 e2;obtain⟨g1,g2,g3⟩:=ht _ (M8 ..);exact .inr (g1.use hΓ g2 g3 h)
   ·exact En hΓ h2 h
  ·exact En hΓ h2 h
def jP(P:Program)(Γ:List (Nat × AV))(tb:List (Nat × List AV × AV))(dl pl:List Nat):Nat->Hk
 | 0=>{ call:=fun _ _ _ _ _ _=>False,loop:=fun _ _ _=>False }
 | n+1=>{
   call:=fun F args mem nx K Kp=>IQ tb F args (fun r=>K r mem nx) (match Nat.beq F YF with
    | false=>match P.funcs[F]? with
     | some fn=>match fn.body with
      | some c=>match CP F dl with
       | false=>match CP F pl with
        | false=>lH fn.ntmps args mem nx fun s=>p9 true P Γ (jP P Γ tb dl pl n) c s (xV P fn.results.toList K Kp)
        | true=>lH fn.ntmps args mem nx fun s=>p9 true P Γ (jP P Γ tb dl pl n) c s (xV P fn.results.toList (MK nx K) Kp)
       | true=>lH fn.ntmps args mem nx fun s=>CH true P Γ (jP P Γ tb dl pl n) c s (Eh P Γ (jP P Γ tb dl pl n) fn.results.toList K Kp)
      | none=>False
     | none=>False
    | true=>False)
   loop:=fun c s Q=>p9 true P Γ (jP P Γ tb dl pl n) c s fun e s'=>match e with
    | .normal=>(jP P Γ tb dl pl n).loop c s' Q
    | e=>Q e s' }
theorem Az(P:Program)(Γ:List (Nat × AV))(hΓ:∀p∈Γ,NN p.2){tb:List (Nat × List AV × AV)}(ht:cQ P Γ tb)(dl pl:List Nat):∀n B,qY P Γ B (jP P Γ tb dl pl n) /\
  ∀c s Q,(jP P Γ tb dl pl n).loop c s Q->∀rd X ds D ρ a w,(∀i,D i->i<B)->SR Γ X ds ρ (dn D B s.nx) s a w->B<=s.nx->tC rd ds c ->
   Code.roundsIn (FW rd) 0 P c (fun e a' w'=>∃(s':St) (ρ':Nat->b8),Q e s'/\B<=s'.nx/\SR Γ X ds ρ' (dn D B s'.nx) s' a' w'/\Ext D ρ s.mem w ρ' (dn D B s'.nx) s'.mem w') n a w:=by
 intro n
 induction n with
 | zero=>exact fun B=>⟨⟨fun _ _ _ _ _ _ h=>h.elim,fun _ _ _ h=>h.elim⟩,fun _ _ _ h=>h.elim⟩
 | succ n ih=>
  intro B;have hr:∀c s Q,(jP P Γ tb dl pl (n+1)).loop c s Q->∀rd X ds D ρ a w,(∀i,D i->i<B)->SR Γ X ds ρ (dn D B s.nx) s a w->B<=s.nx->tC rd ds c ->
    Code.roundsIn (FW rd) 0 P c (fun e a' w'=>∃(s':St) (ρ':Nat->b8),Q e s'/\B<=s'.nx/\SR Γ X ds ρ' (dn D B s'.nx) s' a' w'/\Ext D ρ s.mem w ρ' (dn D B s'.nx) s'.mem w') (n+1) a w:=by
   intro c s Q h rd X ds D ρ a w hD hs hB hno;have h':=(cO (ih B).1 c s _ h).run rd X ds D ρ a w hD hs hB hno;rw[roundsIn_succ];refine wpIn_mono h' ?_;rintro e a1 w1 ⟨s1,ρ1,hq,hB1,hs1,hext⟩;cases e with
   | normal=>
    have key:=(ih B).2 c s1 Q hq rd X ds D ρ1 a1 w1 hD hs1 hB1 hno;refine oX n a1 w1 _ _ ?_ key;rintro e a2 w2 ⟨s2,ρ2,h1,h2,h3,h4⟩;exact⟨s2,ρ2,h1,h2,h3,hext.trans h4⟩
   | exit id=>exact⟨s1,ρ1,hq,hB1,hs1,hext⟩
   | goto l=>exact⟨s1,ρ1,hq,hB1,hs1,hext⟩
   | ret=>exact⟨s1,ρ1,hq,hB1,hs1,hext⟩
   | panic ch=>exact⟨s1,ρ1,hq,hB1,hs1,hext⟩
   | outgrown=>exact⟨s1,ρ1,hq,hB1,hs1,hext⟩
  refine⟨⟨fun F args mem nx K Kp h=>?_,fun c s Q h=>⟨fun rd X ds D ρ a w hD hs hB hno=>wpIn_loop_rounds (n+1) (hr c s Q h rd X ds D ρ a w hD hs hB hno.loop)⟩⟩,hr⟩;simp only[jP] at h;rcases En (K:=K) hΓ ht h with h'|h'
  rotate_left
  ·exact h'.toP
  clear h;have h:=h';clear h';split at h
  ·rename_i hF;split at h
   ·rename_i fn hf;split at h
    ·rename_i c hc;split at h
     ·split at h
      ·exact fZ hf hc ((cO (ih nx).1 _ _ _ (fF h)).mono fun _ _ h=>s6 h) hF
      ·exact Ck hΓ (fZ hf hc ((cO (ih nx).1 _ _ _ (fF h)).mono fun _ _ h=>s6 h) hF)
     ·exact nR hf hc (v7 (fun B=>(ih B).1) nx _ _ _ (fF h)) hF
    ·exact h.elim
   ·exact h.elim
  ·exact h.elim
theorem wL{P:Program}{Γ:List (Nat × AV)}(hΓ:∀p∈Γ,NN p.2){tb:List (Nat × List AV × AV)}(ht:cQ P Γ tb){F:FuncId}{args:List AV}{mem:aK}{nx:Nat}{Q:AV->aK->Nat->Prop}(dl pl:List Nat)(n:Nat)(h:(jP P Γ tb dl pl n).call F args mem nx Q fun _ _ _=>False):aF P Γ F args mem nx Q:=
 ((Az P Γ hΓ ht dl pl n nx).1.call F args mem nx Q _ h).toC fun _ _ _ h=>h
theorem Fb{P:Program}{Γ:List (Nat × AV)}{F:FuncId}{args:List AV}{mem:aK}{nx:Nat}{want:AV}(hΓ:∀p∈Γ,NN p.2){tb:List (Nat × List AV × AV)}(ht:cQ P Γ tb)(dl pl:List Nat)(n:Nat)
  (hc:(pW (ID mem) && (pU mem && (sP nx nx (ID mem) && Nat.ble nx nx)))=true)
  (h:((jP P Γ tb dl pl n).call F args mem nx (fun r m _=>Ls mem want r m) fun _ _ _=>False)=True):aF P Γ F args mem nx fun r m k=>r=want/\m=mem/\k=nx:=by
 refine aF.turn hΓ ((wL hΓ ht dl pl n (by rw[h];trivial)).mono fun r m k hk=>?_);unfold Ls at hk;split at hk
 ·rename_i hb;unfold Lw at hb;split at hb
  ·rename_i v hv;split at hb
   ·rename_i he;have e:=k7 he;subst e;have hn:(mem.map (·.1)).Nodup:=by
     simp only[Mg] at hc;exact dK hc.2.1
    exact cA (ID mem) hc (oU _ hb (FL hn)) (g8 30 r v hv).cv ⟨rfl,rfl,rfl⟩
   ·cases hb
  ·cases hb
 ·exact hk.elim
theorem cQ.nil{P:Program}{Γ:List (Nat × AV)}:cQ P Γ []:=fun e h=>by cases h
theorem cQ.cons{P:Program}{Γ:List (Nat × AV)}{F:Nat}{xs:List AV}{r:AV}{t:List (Nat × List AV × AV)}(h:aZ P Γ F xs r)(h1:sA (frz 30 [] []) xs=some xs)(h2:frz 30 [] [] r=some r)(ht:cQ P Γ t):cQ P Γ ((F,xs,r)::t):=by
 intro e he;rcases Mj.1 he with rfl|he
 ·obtain⟨g1,g2⟩:=f7 (m:=[]) (σ:=[]) (g8 30) h1;exact⟨h,pI g1 g2,(g8 (m:=[]) (σ:=[]) 30 r r h2).nn⟩
 ·exact ht e he
end Go.Ax
