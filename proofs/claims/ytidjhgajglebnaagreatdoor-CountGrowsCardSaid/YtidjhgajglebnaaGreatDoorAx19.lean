/- A part of the proof. -/
import Derived.Test.YtidjhgajglebnaaGreatDoorAx18
set_option linter.unusedVariables false
set_option linter.unusedSimpArgs false
namespace Go.Proofs.YtidjhgajglebnaaGreatDoor
open Go Go.Ax Go.Proofs Tryz
set_option maxRecDepth 100000
set_option maxHeartbeats 16000000
set_option maxHeartbeats 16000000
set_option maxHeartbeats 16000000
set_option maxHeartbeats 16000000
set_option maxHeartbeats 16000000
end Go.Proofs.YtidjhgajglebnaaGreatDoor
namespace Go.Ax
open Go
def zB(f:AV->Option AV):List AV->Option (List AV)
 | []=>some []
 | a::r=>match f a with
  | none=>none
  | some b=>match zB f r with
   | none=>none
   | some t=>some (b::t)
def frz:Nat->List (Nat × Nat)->aN->AV->Option AV
 | 0,_,_,_=>none
 | n+1,σ,m,v=>match v with
  | .bool b=>some (.bool b)
  | .int k i=>some (.int k i)
  | .str s=>some (.str s)
  | .nptr=>some .nptr
  | .nsl=>some .nsl
  | .nmap=>some .nmap
  | .nfn=>some .nfn
  | .nif=>some .nif
  | .sl id off len=>match lk σ id with
   | none=>match lk m id with
    | some (.row t sz xs)=>match Nat.ble (off+len) xs.length with
     | true=>match zB (frz n σ m) ((xs.drop off).take len) with
      | some ys=>some (.il sz ys)
      | none=>none
     | false=>none
    | _=>none
   | some _=>none
  | .il sz xs=>match zB (frz n σ m) xs with
   | some ys=>some (.il sz ys)
   | none=>none
  | .ifc t v=>match frz n σ m v with
   | some v'=>some (.ifc t v')
   | none=>none
  | .agg cs=>match zB (frz n σ m) cs with
   | some ys=>some (.agg ys)
   | none=>none
  | .tup cs=>match zB (frz n σ m) cs with
   | some ys=>some (.tup ys)
   | none=>none
  | _=>none
structure yF(m:aN)(σ:List (Nat × Nat))(v v':AV):Prop where
 cv:Cv m σ v v'
 nn:NN v'
 ce:jJ m σ v.cells v'.cells
theorem yF.len{m:aN}{σ:List (Nat × Nat)}{v v':AV}(h:yF m σ v v'):v.cells.length=v'.cells.length:=h.ce.1
theorem jU{m:aN}{σ:List (Nat × Nat)}{f:AV->Option AV}(hf:∀v v',f v=some v'->yF m σ v v'):∀{l l':List AV},zB f l=some l'->l.length=l'.length/\∀(j:Nat) (a b:AV),l[j]? = some a->l'[j]? = some b->yF m σ a b
 | [],l',h=>by simp only[zB] at h;cases h;exact⟨rfl,fun j a b h=>by simp at h⟩
 | a::r,l',h=>by
  simp only[zB] at h;split at h
  ·cases h
  ·rename_i b hb;split at h
   ·cases h
   ·rename_i t ht;cases h;obtain⟨h1,h2⟩:=jU hf ht;refine⟨by simp[h1],fun j x y hx hy=>?_⟩;cases j with
    | zero=>simp at hx hy;subst hx hy;exact hf _ _ hb
    | succ j=>simp at hx hy;exact h2 j x y hx hy
theorem tI{m:aN}{σ:List (Nat × Nat)}{l l':List AV}(h1:l.length=l'.length)(h2:∀(j:Nat) (a b:AV),l[j]? = some a->l'[j]? = some b->yF m σ a b):kH l':=fun b hb=>by
 obtain⟨j,hj⟩:=Ui hb;obtain⟨a,ha⟩:=dC h1 hj;exact(h2 j a b ha hj).nn
theorem yF.one{m:aN}{σ:List (Nat × Nat)}{v v':AV}(h1:v.cells=[v])(h2:v'.cells=[v'])(hc:Cv m σ v v')(hn:NN v'):yF m σ v v':=
 ⟨hc,hn,by rw[h1,h2];exact jJ.cons hc .nil⟩
theorem nD{m:aN}{σ:List (Nat × Nat)}:∀(n:Nat) (v v':AV),frz n σ m v=some v'->yF m σ v v'
 | 0,v,v',h=>by simp[frz] at h
 | n+1,v,v',h=>by
  have ih:=nD (m:=m) (σ:=σ) n;cases v with
  | bool b=>simp only[frz] at h;cases h;exact .one rfl rfl (.same _ (.bool b)) (.bool b)
  | int k i=>simp only[frz] at h;cases h;exact .one rfl rfl (.same _ (.int k i)) (.int k i)
  | str s=>simp only[frz] at h;cases h;exact .one rfl rfl (.same _ (.str s)) (.str s)
  | nptr=>simp only[frz] at h;cases h;exact .one rfl rfl (.same _ .nptr) .nptr
  | nsl=>simp only[frz] at h;cases h;exact .one rfl rfl (.same _ .nsl) .nsl
  | nmap=>simp only[frz] at h;cases h;exact .one rfl rfl (.same _ .nmap) .nmap
  | nfn=>simp only[frz] at h;cases h;exact .one rfl rfl (.same _ .nfn) .nfn
  | nif=>simp only[frz] at h;cases h;exact .one rfl rfl (.same _ .nif) .nif
  | ptr id i j=>simp[frz] at h
  | mp id=>simp[frz] at h
  | ip v=>simp[frz] at h
  | fn f a b=>simp[frz] at h
  | junk=>simp[frz] at h
  | yld id=>simp[frz] at h
  | sl id off len=>
   simp only[frz] at h;split at h
   ·rename_i hs;split at h
    ·rename_i t sz xs hx;split at h
     ·rename_i hle;split at h
      ·rename_i ys hy;cases h;have hle:=T3 hle;obtain⟨h1,h2⟩:=jU ih hy;have hget:∀(i:Nat) (x y:AV),xs[off+i]? = some x->ys[i]? = some y->yF m σ x y:=fun i x y hx hy=>by
        refine h2 i x y ?_ hy;have hlt:i<ys.length:=(T0.1 hy).1;rw[←h1] at hlt;rw[Ua,T7 (by simp at hlt;omega),Up];exact hx
       refine .one rfl rfl (.fz id off len t sz xs ys hx hs hle (by rw[←h1];simp;omega) (fun i x y hx hy=>(hget i x y hx hy).len) fun i x y j c c' hx hy hc hc'=>(hget i x y hx hy).ce.2 j c c' hc hc') ?_;exact NN.il' (tI h1 h2)
      ·cases h
     ·cases h
    ·cases h
   ·cases h
  | il sz xs=>
   simp only[frz] at h;split at h
   ·rename_i ys hy;cases h;obtain⟨h1,h2⟩:=jU ih hy;refine .one rfl rfl (.il sz xs ys h1 (fun i x y hx hy=>(h2 i x y hx hy).len) fun i x y j c c' hx hy hc hc'=>(h2 i x y hx hy).ce.2 j c c' hc hc') ?_;exact NN.il' (tI h1 h2)
   ·cases h
  | ifc t v=>
   simp only[frz] at h;split at h
   ·rename_i v' hv;cases h;exact .one rfl rfl (.ifc t v v' (ih v v' hv).cv) (.ifc t v' (ih v v' hv).nn)
   ·cases h
  | agg cs=>
   simp only[frz] at h;split at h
   ·rename_i ys hy;cases h;obtain⟨h1,h2⟩:=jU ih hy;have hl:jJ m σ cs ys:=⟨h1,fun j c c' hc hc'=>(h2 j c c' hc hc').cv⟩
    exact⟨.agg' hl,.agg' (tI h1 h2),hl⟩
   ·cases h
  | tup cs=>
   simp only[frz] at h;split at h
   ·rename_i ys hy;cases h;obtain⟨h1,h2⟩:=jU ih hy;have hl:jJ m σ cs ys:=⟨h1,fun j c c' hc hc'=>(h2 j c c' hc hc').cv⟩
    exact .one rfl rfl (.tup' hl) (.tup' (tI h1 h2))
   ·cases h
def P4:aN->List (Nat × Nat)
 | []=>[]
 | (i,_)::r=>(i,i)::P4 r
theorem RU{mem:aN}:∀{i:Nat} {b:AB},lk mem i=some b->lk (P4 mem) i=some i:=by
 induction mem with
 | nil=>intro i b h;simp[lk] at h
 | cons p r ih=>
  intro i b h;obtain⟨j,u⟩:=p;simp only[lk] at h;simp only[P4,lk];split at h
  ·rename_i e;rw[T2 e]
  ·exact ih h
def I3(m:aN):aN->Bool
 | []=>true
 | (i,b)::r=>(match b with
  | .row t sz xs=>match lk m i with
   | some (.row t' sz' xs')=>match zB (frz 30 [] []) xs with
    | some ys=>Nat.beq t t' && (Nat.beq sz sz' && (pF xs' xs && pF ys xs))
    | none=>false
   | _=>false
  | _=>false) && I3 m r
theorem AJ{m:aN}(σ:List (Nat × Nat)):∀{mem:aN},I3 m mem=true->(∀p∈mem,lk σ p.1=some p.1)->dE m σ mem
 | [],h,hs=>trivial
 | (i,b)::r,h,hs=>by
  simp only[I3,Tz] at h;refine⟨?_,AJ σ h.2 fun p hp=>hs p (UF _ hp)⟩;have h:=h.1;split at h
  ·rename_i t sz xs;split at h
   ·rename_i t' sz' xs' hl;split at h
    ·rename_i ys hy;simp only[Tz] at h;obtain⟨h1,h2,h3,h4⟩:=h;have e1:=T2 h1;have e2:=T2 h2;have e3:=kP h3;have e4:=kP h4;subst e1 e2 e3 e4;obtain⟨g1,g2⟩:=jU (nD 30) hy;exact⟨i,ys,hs _ (UN ..),hl,.same (tI g1 g2)⟩
    ·cases h
   ·cases h
  ·cases h
def Tc(mem:aN)(want r:AV)(m:aN):Bool:=
 match frz 30 (P4 mem) m r with
 | some v=>match k6 v want with
  | true=>I3 m mem
  | false=>false
 | none=>false
def Ti(mem:aN)(want r:AV)(m:aN):Prop:=
 match Tc mem want r m with
 | true=>True
 | false=>False
theorem N9:∀{mem:aN},(mem.map (·.1)).Nodup->∀p∈mem,lk (P4 mem) p.1=some p.1:=by
 intro mem hn p hp;have:∃b,lk mem p.1=some b:=by
  clear hn
  induction mem with
  | nil=>cases hp
  | cons q r ih=>
   obtain⟨j,u⟩:=q;simp only[lk];split
   ·exact⟨u,rfl⟩
   ·rename_i e;rcases T6.1 hp with rfl|hp
    ·simp at e
    ·exact ih hp
 obtain⟨b,hb⟩:=this;exact RU hb
theorem aE.exact{P:Program}{Γ:List (Nat × AV)}{F:FuncId}{args:List AV}{mem:aN}{nx:Nat}{want:AV}{K:AV->aN->Nat->Prop}(h:aE P Γ F args mem nx fun r m k=>r=want/\m=mem/\k=nx)(hk:K want mem nx):aE P Γ F args mem nx K:=
 h.mono fun r m k ⟨h1,h2,h3⟩=>by rw[h1,h2,h3];exact hk
end Go.Ax
