/- A part of the proof. -/
import Derived.Test.YtidjhgajglebnaaGreatDoorAx21
set_option linter.unusedVariables false
set_option linter.unusedSimpArgs false
namespace Go.Proofs.YtidjhgajglebnaaGreatDoor
open Go Go.Ax Go.Proofs Tryz
set_option maxRecDepth 100000
set_option maxHeartbeats 16000000
theorem R6(n:Nat)(h:n<=mO 256):aT prog gz 13 [kC (n:Int),dW (n:Int)] (.bool true):=by
 have hS:=TV (n:Int) (Yw (AU h) (by omega));have hT:=XN (n:Int) (by
  rw[Zc];exact Yw (Dq h rfl (by decide)) (by decide))
 obtain⟨b,l,e⟩:=eR (n:Int);have n1:=fD b l;have n2:NN (.agg [.bool false,.il 1 (bX (dg 4294967296 n))]):=.agg' (.cons (tB _) (.cons (tU _) .nil));rw[e] at hT ⊢;rw[dF] at hS ⊢;generalize bX (dg 4294967296 n)=z at *;generalize KN (n:Int)=t at *;refine aD dQ func13 rfl ?_;refine Rr ?_;refine hS.use dQ (.cons n2 .nil) nn ?_;refine Rt ?_;refine hT.goG ?_ (.cons n1 .nil) nn;refine Rt ?_;exact fL (r':=.bool true) (.bool (by simp)) ⟨rfl,rfl,rfl⟩
end Go.Proofs.YtidjhgajglebnaaGreatDoor
namespace Go.Ax
open Go
theorem Fq{α:Type}:∀{l m:List α},l.Nodup->(∀x∈l,x∈m)->l.length<=m.length
 | [],m,_,_=>Zd _
 | a::l,m,hn,hs=>by
  obtain⟨m1,m2,rfl⟩:=aAY (hs a (Y7 ..));obtain⟨h1,h2⟩:=Za.1 hn;have:=Fq (m:=m1++m2) h2 fun x hx=>by
   have hm:=hs x (Yx _ hx);rw[Yz,Yr] at hm;rw[Yz];rcases hm with hm|hm|hm
   ·exact .inl hm
   ·subst hm;exact absurd hx h1
   ·exact .inr hm
  simp only[Y1,ZH] at this ⊢;omega
mutual
def Dt:aR->List aR
 | .mk k n s ks=>.mk k n s ks::qH ks
def qH:List aR->List aR
 | []=>[]
 | v::r=>Dt v++qH r
end
mutual
theorem O6:∀v:aR,(Dt v).length<=bB v
 | .mk k n s ks=>by
  have:=Bx ks;simp only[Dt,bB,ZH];omega
theorem Bx:∀l:List aR,(qH l).length<=bZ l
 | []=>by simp[qH]
 | v::r=>by
  have h1:=O6 v;have h2:=Bx r;simp only[qH,bZ,Y1];omega
end
theorem F5(v:aR):v∈Dt v:=by
 obtain⟨k,n,s,ks⟩:=v;rw[Dt];exact Y7 ..
theorem Bl:∀{l:List aR} {v u:aR},v∈l->u∈Dt v->u∈qH l
 | [],v,u,h,_=>by cases h
 | a::r,v,u,h,hu=>by
  rw[qH,Yz];rcases Yr.1 h with rfl|h
  ·exact .inl hu
  ·exact .inr (Bl h hu)
mutual
theorem P7:∀(v:aR) {u w:aR},u∈Dt v->w∈jZ u->w∈Dt v
 | .mk k n s ks,u,w,hu,hw=>by
  rw[Dt] at hu ⊢;rcases Yr.1 hu with rfl|hu
  ·exact Yx _ (Bl hw (F5 w))
  ·exact Yx _ (Be ks hu hw)
theorem Be:∀(l:List aR) {u w:aR},u∈qH l->w∈jZ u->w∈qH l
 | [],u,w,hu,hw=>by simp[qH] at hu
 | v::r,u,w,hu,hw=>by
  rw[qH,Yz] at hu ⊢;rcases hu with hu|hu
  ·exact .inl (P7 v hu hw)
  ·exact .inr (Be r hu hw)
end
def u6(A:List Nd):List aR:=A.flatMap fun x=>qH x.values
theorem KX{A:List Nd}{x:Nd}{v:aR}(hx:x∈A)(hv:v∈x.values):v∈u6 A:=aAH.2 ⟨x,hx,Bl hv (F5 v)⟩
theorem KC{A:List Nd}{u w:aR}(hu:u∈u6 A)(hw:w∈jZ u):w∈u6 A:=by
 obtain⟨x,hx,h⟩:=aAH.1 hu;exact aAH.2 ⟨x,hx,Be _ h hw⟩
mutual
theorem Qi{P:aR->Prop}(hk:∀v,P v->∀u∈jZ v,P u):∀(v:aR),P v->∀u∈Dt v,P u
 | .mk k n s ks,h,u,hu=>by
  rw[Dt] at hu;rcases Yr.1 hu with rfl|hu
  ·exact h
  ·exact BW hk ks (fun w hw=>hk _ h w hw) u hu
theorem BW{P:aR->Prop}(hk:∀v,P v->∀u∈jZ v,P u):∀(l:List aR),(∀v∈l,P v)->∀u∈qH l,P u
 | [],_,u,hu=>by simp[qH] at hu
 | v::r,h,u,hu=>by
  rw[qH,Yz] at hu;rcases hu with hu|hu
  ·exact Qi hk v (h v (Y7 ..)) u hu
  ·exact BW hk r (fun w hw=>h w (Yx _ hw)) u hu
end
theorem M5{A:List Nd}(h:VT A):∀u∈u6 A,g9 u/\bP u=0:=by
 intro u hu;obtain⟨x,hx,hs⟩:=aAH.1 hu;obtain⟨i,hi⟩:=ZQ hx;refine BW (P:=fun u=>g9 u/\bP u=0) (fun v hv w hw=>⟨?_,zP hv.2 w hw⟩) x.values (fun v hv=>⟨((h.tin.ok x hx).valuesI v hv).1,h.vals_valid hi hv⟩) u hs;obtain⟨k,n,s,ks⟩:=v;exact kA hv.1.2.2.2.2 w hw
theorem BG:∀(l:List aR),(∀v∈l,bB v<=1024)->bZ l<=1024*l.length
 | [],_=>by simp[bZ]
 | v::r,h=>by
  have h1:=h v (Y7 ..);have h2:=BG r fun w hw=>h w (Yx _ hw)
  simp only[bZ,ZH];omega
theorem u0{α β:Type}(f:α->List β)(N:Nat):∀(l:List α),(∀x∈l,(f x).length<=N)->(l.flatMap f).length<=l.length*N
 | [],_=>by simp
 | a::l,h=>by
  have h1:=h a (Y7 ..);have h2:=u0 f N l fun x hx=>h x (Yx _ hx)
  rw[Z0,Y1,ZH,Nat.succ_mul];omega
theorem K9{A:List Nd}(h:VT A):(u6 A).length<=A.length*2048000:=by
 refine u0 _ _ _ fun x hx=>?_
 obtain⟨i,hi⟩:=ZQ hx;have h1:=Bx x.values;have h2:=BG x.values fun v hv=>(j8 (h.vals_valid hi hv)).2.2
 have h3:=h.tin.vlen x hx;omega
end Go.Ax
