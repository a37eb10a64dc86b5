/- A part of the proof. -/
import Derived.Test.YtidjhgajglebnaaGreatDoorAx11
import Derived.Recover
set_option linter.unusedVariables false
set_option linter.unusedSimpArgs false
namespace Go.Proofs.YtidjhgajglebnaaGreatDoor
open Go Go.Ax Go.Proofs Tryz
set_option maxRecDepth 100000
set_option maxHeartbeats 16000000
def gY:Option Nat->AV
 | none=>.agg [.bool false,.il 1 [],.bool false]
 | some n=>.agg [.bool false,.il 1 (bM (dg 4294967296 n)),.bool true]
theorem c9(o:Option Nat):NN (gY o):=by
 cases o with
 | none=>exact .agg' (.cons (tB _) (.cons (tU []) (.cons (tB _) .nil)))
 | some n=>exact .agg' (.cons (tB _) (.cons (tU _) (.cons (tB _) .nil)))
theorem cM(n:Nat):fW (n:Int) = .agg [.bool false,.il 1 (bM (dg 4294967296 n))]:=by
 rw[iW,Uz];rw[UO (show ¬((n:Int)<0) by omega)]
theorem rR{n:Nat}(h:n<=qZ 256):oG (n:Int)=true:=Mj h rfl (by decide)
theorem lU{n:Nat}(h:n<=qZ 256):(dg 4294967296 (n:Int).natAbs).length<=512:=On (rR h)
theorem TU(a b:Nat)(h:a+b<=qZ 256):aZ prog [] 76 [fW a,fW b] (fW ((a+b:Nat):Int)):=by
 have hA:=Pj (a:Int) (b:Int) (by have:=lU (show a<=qZ 256 by omega);omega) (by have:=lU (show b<=qZ 256 by omega);omega);have hf:oG ((a:Int)+(b:Int))=true:=by have:=rR h;rwa [VG] at this
 unfold Au at hA;rw[T7 hf,←VG] at hA;rw[cM,cM] at hA ⊢;rw[cM] at hA ⊢;have nx:NN (.agg [.bool false,.il 1 (bM (dg 4294967296 a))]):=.agg' (.cons (tB _) (.cons (tU _) .nil));have ny:NN (.agg [.bool false,.il 1 (bM (dg 4294967296 b))]):=.agg' (.cons (tB _) (.cons (tU _) .nil));have nz:NN (.agg [.bool false,.il 1 (bM (dg 4294967296 (a+b)))]):=.agg' (.cons (tB _) (.cons (tU _) .nil));generalize bM (dg 4294967296 a)=x at *;generalize bM (dg 4294967296 b)=y at *;generalize bM (dg 4294967296 (a+b))=z at *;refine aG bB func76 rfl ?_;refine Rr ?_;refine hA.go ?_ (.cons nx (.cons ny .nil)) (.tup' (.cons nz (.cons nn .nil)));refine Rr ?_;exact aA nz ⟨rfl,rfl,rfl⟩
theorem Rw(a b:Nat)(ha:a<=qZ 256)(hb:b<=qZ 256)(h:a*b<=qZ 256):aZ prog [] 77 [fW a,fW b] (fW ((a*b:Nat):Int)):=by
 have hA:=Px (a:Int) (b:Int) (by have:=lU ha;omega) (by have:=lU hb;omega);have hf:oG ((a:Int)*(b:Int))=true:=by have:=rR h;rwa [Vf] at this
 unfold Au at hA;rw[T7 hf,←Vf] at hA;rw[cM,cM] at hA ⊢;rw[cM] at hA ⊢;have nx:NN (.agg [.bool false,.il 1 (bM (dg 4294967296 a))]):=.agg' (.cons (tB _) (.cons (tU _) .nil));have ny:NN (.agg [.bool false,.il 1 (bM (dg 4294967296 b))]):=.agg' (.cons (tB _) (.cons (tU _) .nil));have nz:NN (.agg [.bool false,.il 1 (bM (dg 4294967296 (a*b)))]):=.agg' (.cons (tB _) (.cons (tU _) .nil));generalize bM (dg 4294967296 a)=x at *;generalize bM (dg 4294967296 b)=y at *;generalize bM (dg 4294967296 (a*b))=z at *;refine aG bB func77 rfl ?_;refine Rr ?_;refine hA.go ?_ (.cons nx (.cons ny .nil)) (.tup' (.cons nz (.cons nn .nil)));refine Rr ?_;exact aA nz ⟨rfl,rfl,rfl⟩
theorem QI(p:AV)(np:NN p)(c:Int):aZ prog [] 78 [p,.int .i64 c] (fW ((1:Nat):Int)):=by
 have hF:=Lm 1 ⟨by omega,by omega⟩;rw[show (1:Int)=((1:Nat):Int) from rfl,cM] at hF;rw[cM];have nz:NN (.agg [.bool false,.il 1 (bM (dg 4294967296 1))]):=.agg' (.cons (tB _) (.cons (tU _) .nil));generalize bM (dg 4294967296 1)=z at *;refine aG bB func78 rfl ?_;refine Rr ?_;refine hF.go ?_ (.cons nn .nil) nz;refine Rr ?_;exact aA nz ⟨rfl,rfl,rfl⟩
def IP(A:List Nd)(mid:Nat):AV:=.agg [.il 12 (bD A),.bool false,.il 1 (bM (dg 4294967296 1)),.fn (.func 76) [] [],.fn (.func 77) [] [],.fn (.func 78) [] [],.fn (.func 79) [] [],.mp mid]
def q7(A:List Nd)(L:List Key):aN:=[(0,.row 150 8 [IP A 1]),(1,.mapb (oY gY aR A L))]
theorem BH(F:FuncId):NN (.fn (.func F) [] []):=.fn _ _ _ (by simp) (by simp)
theorem qH{mem:aN}{σ:List (Nat × Nat)}{A:List Nd}{i j:Nat}(h:lk σ i=some j):D1 mem σ (IP A i) (IP A j):=
 .agg (.cons (.same _ (.il' (aX A))) (.cons (.same _ (tB _)) (.cons (.same _ (tU _)) (.cons (.same _ (BH _)) (.cons (.same _ (BH _)) (.cons (.same _ (BH _)) (.cons (.same _ (BH _)) (.cons (.mp _ _ h) .nil))))))))
theorem qG{mem:aN}{σ:List (Nat × Nat)}{T:Type}{fd:Option T->AV}{g:Aj T}{A:List Nd}(hn:∀o,NN (fd o))(L:List Key):S2 mem σ (oY fd g A L) (oY fd g A L):=⟨rfl,fun i e e' h1 h2=>by
 rw[h1] at h2;cases h2;unfold oY at h1;rw[Uh] at h1;cases hm:L[i]? with
 | none=>rw[hm] at h1;cases h1
 | some k=>
  rw[hm] at h1;cases h1;exact⟨.same _ (Nt k),.same _ (hn _)⟩⟩
theorem cR{mem:aN}{σ:List (Nat × Nat)}{A:List Nd}{L:List Key}{i j:Nat}(s0:lk σ i=some 0)(s1:lk σ j=some 1)(m0:lk mem i=some (.row 150 8 [IP A j]))(m1:lk mem j=some (.mapb (oY gY aR A L))):dE mem σ (q7 A L):=
 ⟨⟨i,_,s0,m0,.cons (qH s1) .nil⟩,⟨j,_,s1,m1,qG c9 L⟩,trivial⟩
theorem FH{mem:aN}{σ:List (Nat × Nat)}:Cv mem σ (.agg [.bool false,.nsl,.bool false]) (gY none):=.agg' (.cons (.same _ (tB _)) (.cons (.nil 1) (.cons (.same _ (tB _)) .nil)))
theorem yA{n:Nat}(h:sF (some n)):n<=qZ 256:=by
 obtain⟨m,h1,h2⟩:=h;unfold qX at h2;split at h2
 ·cases h2
 ·injection h2 with h2;omega
theorem Qo{A:List Nd}(L:List Key)(a b:Option Nat)(ha:sF a)(hb:sF b)(h:sF (dI aR a b)) :
  aE prog [] 81 [.ptr 0 0 0,gY a,gY b] (q7 A L) 2 fun r m k=>r=gY (dI aR a b)/\m=q7 A L/\k=2:=by
 refine aG bB func81 rfl ?_;cases a with
 | none=>
  cases b with
  | none=>
   refine Rr ?_;exact bJ (n':=2) (m':=q7 A L) [(0,0),(1,1)] rfl (cR (i:=0) (j:=1) rfl rfl rfl rfl) FH ⟨rfl,rfl,rfl⟩
  | some y=>
   refine Rr ?_;exact bJ (n':=2) (m':=q7 A L) [(0,0),(1,1)] rfl (cR (i:=0) (j:=1) rfl rfl rfl rfl) FH ⟨rfl,rfl,rfl⟩
 | some x=>
  cases b with
  | none=>
   refine Rr ?_;exact bJ (n':=2) (m':=q7 A L) [(0,0),(1,1)] rfl (cR (i:=0) (j:=1) rfl rfl rfl rfl) FH ⟨rfl,rfl,rfl⟩
  | some y=>
   have hP:=Rw x y (yA ha) (yA hb) (yA h);rw[cM,cM,cM] at hP;have nx:NN (.agg [.bool false,.il 1 (bM (dg 4294967296 x))]):=.agg' (.cons (tB _) (.cons (tU _) .nil));have ny:NN (.agg [.bool false,.il 1 (bM (dg 4294967296 y))]):=.agg' (.cons (tB _) (.cons (tU _) .nil));have nz:NN (.agg [.bool false,.il 1 (bM (dg 4294967296 (x*y)))]):=.agg' (.cons (tB _) (.cons (tU _) .nil));have hr:gY (dI aR (some x) (some y)) = .agg [.bool false,.il 1 (bM (dg 4294967296 (x*y))),.bool true]:=rfl;rw[hr];refine Rr ?_;refine hP.go ?_ (.cons nx (.cons ny .nil)) nz;refine Rt ?_;exact bJ (n':=2) (m':=q7 A L) [(0,0),(1,1)] rfl (cR (i:=0) (j:=1) rfl rfl rfl rfl) (.same _ (c9 (some (x*y)))) ⟨rfl,rfl,rfl⟩
theorem Re{A:List Nd}(L:List Key)(a b:Option Nat)(ha:sF a)(hb:sF b)(h:sF (gK aR a b)) :
  aE prog [] 82 [.ptr 0 0 0,gY a,gY b] (q7 A L) 2 fun r m k=>r=gY (gK aR a b)/\m=q7 A L/\k=2:=by
 refine aG bB func82 rfl ?_;cases a with
 | none=>
  have hr:gY (gK aR none b)=gY b:=by cases b<;>rfl
  rw[hr];cases b with
  | none=>
   refine Rr ?_;exact bJ (n':=2) (m':=q7 A L) [(0,0),(1,1)] rfl (cR (i:=0) (j:=1) rfl rfl rfl rfl) (.same _ (c9 none)) ⟨rfl,rfl,rfl⟩
  | some y=>
   refine Rr ?_;exact bJ (n':=2) (m':=q7 A L) [(0,0),(1,1)] rfl (cR (i:=0) (j:=1) rfl rfl rfl rfl) (.same _ (c9 (some y))) ⟨rfl,rfl,rfl⟩
 | some x=>
  cases b with
  | none=>
   refine Rr ?_;exact bJ (n':=2) (m':=q7 A L) [(0,0),(1,1)] rfl (cR (i:=0) (j:=1) rfl rfl rfl rfl) (.same _ (c9 (some x))) ⟨rfl,rfl,rfl⟩
  | some y=>
   have hP:=TU x y (yA h);rw[cM,cM,cM] at hP;have nx:NN (.agg [.bool false,.il 1 (bM (dg 4294967296 x))]):=.agg' (.cons (tB _) (.cons (tU _) .nil));have ny:NN (.agg [.bool false,.il 1 (bM (dg 4294967296 y))]):=.agg' (.cons (tB _) (.cons (tU _) .nil));have nz:NN (.agg [.bool false,.il 1 (bM (dg 4294967296 (x+y)))]):=.agg' (.cons (tB _) (.cons (tU _) .nil));have hr:gY (gK aR (some x) (some y)) = .agg [.bool false,.il 1 (bM (dg 4294967296 (x+y))),.bool true]:=rfl;rw[hr];refine Rr ?_;refine hP.go ?_ (.cons nx (.cons ny .nil)) nz;refine Rt ?_;exact bJ (n':=2) (m':=q7 A L) [(0,0),(1,1)] rfl (cR (i:=0) (j:=1) rfl rfl rfl rfl) (.same _ (c9 (some (x+y)))) ⟨rfl,rfl,rfl⟩
end Go.Proofs.YtidjhgajglebnaaGreatDoor
namespace Go.Ax
open Go
inductive gT where
 | ret
 | pan (x:Value)
 | recd (x:Value)
def gT.mode:gT->FrameMode
 | .ret=>.returning
 | .pan x=>.panicking [pe x]
 | .recd x=>.panicking [{ v:=x,recovered:=true }]
def J5:List Value->Option (List AV)
 | []=>some []
 | .int k n::r=>match J5 r with
  | some l=>some (.int k n::l)
  | none=>none
 | .bool b::r=>match J5 r with
  | some l=>some (.bool b::l)
  | none=>none
 | _=>none
def TZ:Value->Option AV
 | .iface t (.agg arr)=>match J5 arr.toList with
  | some l=>some (.ifc t (.agg l))
  | none=>none
 | _=>none
theorem Bd{ρ:Nat->cW}{D:Nat->Prop}{O:Nat->Prop}{w:World}:∀{xs:List Value} {l:List AV},J5 xs=some l->H4 ρ D O w l xs
 | [],l,h=>by simp only[J5] at h;cases h;exact⟨.nil,by simp⟩
 | x::r,l,h=>by
  cases x<;>simp only[J5] at h<;>first|(cases h;done)|skip
  all_goals
   split at h
   ·rename_i l' hl;cases h;obtain⟨h1,h2⟩:=Bd (ρ:=ρ) (D:=D) (O:=O) (w:=w) hl;refine⟨.cons ?_ h1,fun y hy=>?_⟩
    ·first|exact .int _ _|exact .bool _
    ·rcases T6.1 hy with rfl|hy
     ·rfl
     ·exact h2 y hy
   ·cases h
theorem Ko{ρ:Nat->cW}{D:Nat->Prop}{O:Nat->Prop}{w:World}{x:Value}{v:AV}(h:TZ x=some v):VR ρ D O w v x:=by
 unfold TZ at h;split at h
 ·rename_i t arr;split at h
  ·rename_i l hl;cases h;obtain⟨h1,h2⟩:=Bd (ρ:=ρ) (D:=D) (O:=O) (w:=w) hl;exact .ifc t _ _ (.agg l arr (by have:=h1.1;simpa using this) (fun y hy=>h2 y (by simpa using hy)) fun j c y hj hy=>h1.2 j c y hj (by simpa using hy))
  ·cases h
 ·cases h
structure pY(P:Program)(Γ:List (Nat × AV))(B:Nat)(c:Code)(s:St)(m:gT)(Q:Exit->St->gT->Prop):Prop where
 run:∀(X:Nat->Prop) (ds:List Deferred) (D:Nat->Prop) (ρ:Nat->cW) (a:Act) (w:World) (c₀:Frame) (cs:List Frame),(∀i,D i->i<B)->SR Γ X (ds,0) ρ (dn D B s.nx) s a w->B<=s.nx->c₀.mode=m.mode ->
  c.wpS P (fun e a' cs' w'=>∃(s':St) (m':gT) (ρ':Nat->cW),Q e s' m'/\cs'={ c₀ with mode:=m'.mode }::cs/\B<=s'.nx/\SR Γ X (ds,0) ρ' (dn D B s'.nx) s' a' w'/\Ext D ρ s.mem w ρ' (dn D B s'.nx) s'.mem w') a (c₀::cs) w
section
variable {P:Program} {Γ:List (Nat × AV)} {B:Nat} {s:St} {m:gT} {Q:Exit->St->gT->Prop}
theorem qI{c₀:Frame}{u:FrameMode}(h:c₀.mode=u):{ c₀ with mode:=u }=c₀:=by subst h;rfl
theorem pY.of{c:Code}(hc:gU c=false)(h:eD P Γ B c s fun e s'=>Q e s' m):pY P Γ B c s m Q:=by
 refine⟨fun X ds D ρ a w c₀ cs hD hs hB hm=>wpS_of_wp (Go.wp_mono (FU.1 (h.run none X (ds,0) D ρ a w hD hs hB (.no hc))) ?_)⟩;rintro e a' w' ⟨s',ρ',hq,hB',hs',hext⟩;exact⟨s',m,ρ',hq,by rw[qI hm],hB',hs',hext⟩
def R0(P:Program)(Γ:List (Nat × AV))(B:Nat)(y:Code)(Q:Exit->St->gT->Prop)(e:Exit)(s:St)(m:gT):Prop:=
 match e with
 | .normal=>pY P Γ B y s m Q
 | e=>Q e s m
theorem wU{c:Code}{Q Q':Exit->Act->List Frame->World->Prop}{a:Act}{cs:List Frame}{w:World}(h:c.wpS P Q a cs w)(hq:∀e a cs w,Q e a cs w->Q' e a cs w):c.wpS P Q' a cs w:=
 fun b k hb hr=>let ⟨e,a',cs',w',q,r⟩:=h b k hb hr;⟨e,a',cs',w',hq _ _ _ _ q,r⟩
theorem pY.seq{x y:Code}(h:pY P Γ B x s m (R0 P Γ B y Q)):pY P Γ B (.seq x y) s m Q:=by
 refine⟨fun X ds D ρ a w c₀ cs hD hs hB hm=>wpS_seq (wU (h.run X ds D ρ a w c₀ cs hD hs hB hm) ?_)⟩;rintro e a' cs' w' ⟨s',m',ρ',hq,rfl,hB',hs',hext⟩;cases e with
 | normal=>
  refine wU ((show pY P Γ B y s' m' Q from hq).run X ds D ρ' a' w' { c₀ with mode:=m'.mode } cs hD hs' hB' rfl) ?_;rintro e a2 cs2 w2 ⟨s2,m2,ρ2,h1,rfl,h2,h3,h4⟩;exact⟨s2,m2,ρ2,h1,rfl,h2,h3,hext.trans h4⟩
 | exit i=>exact⟨s',m',ρ',hq,rfl,hB',hs',hext⟩
 | goto l=>exact⟨s',m',ρ',hq,rfl,hB',hs',hext⟩
 | ret=>exact⟨s',m',ρ',hq,rfl,hB',hs',hext⟩
 | panic c=>exact⟨s',m',ρ',hq,rfl,hB',hs',hext⟩
 | outgrown=>exact⟨s',m',ρ',hq,rfl,hB',hs',hext⟩
theorem pY.cond{c:Operand}{x y:Code}{b:Bool}(hc:ev Γ s c=some (.bool b))(h:NW b (pY P Γ B x s m Q) (pY P Γ B y s m Q)):pY P Γ B (.cond c x y) s m Q:=by
 refine⟨fun X ds D ρ a w c₀ cs hD hs hB hm=>?_⟩;have hv:=aU hs hc;generalize he:a.eval c=cv at hv;cases hv;cases b with
 | true=>exact wpS_cond he ((show pY P Γ B x s m Q from h).run X ds D ρ a w c₀ cs hD hs hB hm)
 | false=>exact wpS_cond he ((show pY P Γ B y s m Q from h).run X ds D ρ a w c₀ cs hD hs hB hm)
def MP(op:Op):Bool:=
 match op with
 | .call c=>match c.callee with
  | .builtin .recover=>true
  | _=>false
 | _=>false
def SJ:gT->Option (AV × gT)
 | .ret=>some (.nif,.ret)
 | .pan x=>match TZ x with
  | some v=>some (v,.recd x)
  | none=>none
 | .recd x=>some (.nif,.recd x)
def BS(P:Program)(Γ:List (Nat × AV))(ops:List Oper):List Oper->St->gT->(St->gT->Prop)->Prop
 | [],s,m,K=>K s m
 | o::r,s,m,K=>match lD ops s o.guard with
  | none=>False
  | some false=>match eC s o.dst (.tup []) s.mem s.nx with
   | some s'=>BS P Γ ops r s' m K
   | none=>False
  | some true=>match MP o.op with
   | true=>match SJ m with
    | some (v,m')=>match eC s o.dst v s.mem s.nx with
     | some s'=>BS P Γ ops r s' m' K
     | none=>False
    | none=>False
   | false=>match cP P Γ s o.op with
    | some (v,mem,nx)=>match eC s o.dst v mem nx with
     | some s'=>BS P Γ ops r s' m K
     | none=>False
    | none=>False
theorem KL{o:Oper}(h:MP o.op=true)(ρ:Operand->Value)(w:World):(execOp ρ o).run P w = .ok .recover w:=by
 unfold MP at h;split at h
 ·rename_i c hop;split at h
  ·rename_i hc;simp[execOp,hop,resolve,hc,invoke,builtin]
  ·cases h
 ·cases h
theorem F4(ops:Array Oper):∀(l:List Nat) (s:St) (m:gT) (K:St->gT->Prop),BS P Γ ops.toList (l.filterMap fun i=>ops[i]?) s m K ->
  ∀(X:Nat->Prop) (ds:List Deferred) (D:Nat->Prop) (ρ:Nat->cW) (a:Act) (w:World) (c₀:Frame) (cs:List Frame) (Q:Exit->Act->List Frame->World->Prop),(∀i,D i->i<B)->SR Γ X (ds,0) ρ (dn D B s.nx) s a w->B<=s.nx->c₀.mode=m.mode ->
   (∀(s':St) (m':gT) (ρ':Nat->cW) (a':Act) (w':World),K s' m'->B<=s'.nx->SR Γ X (ds,0) ρ' (dn D B s'.nx) s' a' w'->Ext D ρ s.mem w ρ' (dn D B s'.nx) s'.mem w'->Q .normal a' ({ c₀ with mode:=m'.mode }::cs) w') ->
   wpOpsS P ops Q l a (c₀::cs) w:=by
 intro l
 induction l with
 | nil=>
  intro s m K h X ds D ρ a w c₀ cs Q hD hs hB hm hQ;have:=hQ s m ρ a w h hB hs (Ext.refl fun i hi=>.inl hi);rw[qI hm] at this;exact this
 | cons i r ih=>
  intro s m K h X ds D ρ a w c₀ cs Q hD hs hB hm hQ;simp only[wpOpsS];cases ho:ops[i]? with
  | none=>
   simp only[Wt,ho] at h;exact ih s m K h X ds D ρ a w c₀ cs Q hD hs hB hm hQ
  | some o=>
   simp only[Wt,ho] at h;simp only[BS] at h;split at h
   ·exact h.elim
   ·rename_i hw;have hw':=gP hs hw;rw[WO] at hw';simp only[hw',VI,if_false];split at h
    ·rename_i s' hst;obtain⟨h1,h2,h3⟩:=fV hst hs hs.mr sY (fun h=>h) (fun _ _ h=>h);refine ih s' m K h X ds D ρ _ w c₀ cs Q hD (by rw[h3];exact h1) (by omega) hm fun s2 m2 ρ2 a2 w2 k1 k2 k3 k4=>hQ s2 m2 ρ2 a2 w2 k1 k2 k3 (by rw[←h2];exact k4)
    ·exact h.elim
   ·rename_i hw;have hw':=gP hs hw;rw[WO] at hw';simp only[hw',if_true];split at h
    ·rename_i hrec;rw[KL hrec];split at h
     ·rename_i v m' hv;split at h
      ·rename_i s' hst;have main:∀(x:Value) (c1:Frame),(VR ρ (dn D B s.nx) (OX X ρ s.mem) w v x)->c1={ c₀ with mode:=m'.mode }->wpOpsS P ops Q r (a.put o.dst x) (c1::cs) w:=by
        intro x c1 hx hc1;obtain⟨h1,h2,h3⟩:=fV hst hs hs.mr hx (fun h=>h) (fun _ _ h=>h);subst hc1;exact ih s' m' K h X ds D ρ _ w { c₀ with mode:=m'.mode } cs Q hD (by rw[h3];exact h1) (by omega) rfl fun s2 m2 ρ2 a2 w2 k1 k2 k3 k4=>hQ s2 m2 ρ2 a2 w2 k1 k2 k3 (by rw[←h2];exact k4)
       cases m with
       | ret=>
        cases hv;simp only[recoverD,hm,gT.mode];exact main _ c₀ .nif (qI hm).symm
       | pan x=>
        simp only[SJ] at hv;split at hv
        ·rename_i u hu;cases hv;simp only[recoverD,hm,gT.mode,pe];exact main _ _ (Ko hu) rfl
        ·cases hv
       | recd x=>
        cases hv;simp only[recoverD,hm,gT.mode];exact main _ c₀ .nif (qI hm).symm
      ·exact h.elim
     ·exact h.elim
    ·split at h
     ·rename_i v mem nx hstep;split at h
      ·rename_i s' hst;have hnx:s.nx<=nx:=by rcases yJ hstep with h'|h'<;>omega
       obtain⟨x,n,w',ρ',e1,e2,m1,v1,mono1,ext1⟩:=mH (P:=P) (D:=dn D B s.nx) (D':=dn D B nx) (fun h'=>WA _ (s8 hD hB _ h')) (t7 hnx) hs o (fun e=>.inr ⟨hB,by omega⟩) hstep;obtain⟨h1,h2,h3⟩:=fV hst hs m1 v1 (ext1 _ fun i hi=>hi).mks mono1;have fin:wpOpsS P ops Q r (a.put o.dst x) (c₀::cs) w':=ih s' m K h X ds D ρ' _ w' c₀ cs Q hD (by rw[h3];exact h1) (by rw[h3];exact UQ hB hnx) hm fun s2 m2 ρ2 a2 w2 k1 k2 k3 k4=>hQ s2 m2 ρ2 a2 w2 k1 k2 k3 ((ext1 D fun i hi=>.inl hi).trans (by rw[←h2];exact k4))
       rw[e1];rcases e2 with rfl|⟨rfl,rfl⟩
       ·exact fin
       ·exact fin
      ·exact h.elim
     ·exact h.elim
theorem D5(L:List Oper):∀(l:List Oper) (k:Nat),(∀j,L[k+j]? = l[j]?)->((List.range' k l.length).filterMap fun i=>L[i]?)=l
 | [],k,h=>rfl
 | o::r,k,h=>by
  have h0:L[k]? = some o:=by simpa using h 0
  rw[Ul,List.range'_succ,Wt,h0];simp only;rw[D5 L r (k+1) fun j=>by have:=h (j+1);simpa[VC,W9 1 j] using this]
theorem pY.region{id:Nat}{ops:Array Oper}(h:BS P Γ ops.toList ops.toList s m fun s' m'=>Q .normal s' m'):pY P Γ B (.region id ops false) s m Q:=by
 refine⟨fun X ds D ρ a w c₀ cs hD hs hB hm=>wpS_region ?_⟩;have e:((List.range ops.size).filterMap fun i=>ops[i]?)=ops.toList:=by
  have:=D5 ops.toList ops.toList 0 (fun j=>by rw[UT]);rw[List.range_eq_range',←Wr];simpa using this
 exact F4 ops (List.range ops.size) s m _ (by rw[e];exact h) X ds D ρ a w c₀ cs _ hD hs hB hm fun s' m' ρ' a' w' h1 h2 h3 h4=>⟨s',m',ρ',h1,rfl,h2,h3,h4⟩
def H6(P:Program)(Γ:List (Nat × AV))(H:Hk):Code->St->gT->(St->gT->Prop)->Prop
 | .skip,s,m,K=>K s m
 | .seq x y,s,m,K=>H6 P Γ H x s m fun s' m'=>H6 P Γ H y s' m' K
 | .cond c x y,s,m,K=>match ev Γ s c with
  | some (.bool b)=>match b with
   | true=>H6 P Γ H x s m K
   | false=>H6 P Γ H y s m K
  | _=>False
 | .region _ ops draw,s,m,K=>match draw with
  | false=>BS P Γ ops.toList ops.toList s m K
  | true=>False
 | _,_,_,_=>False
theorem IN{H:Hk}:∀(c:Code) (s:St) (m:gT) (K:St->gT->Prop),H6 P Γ H c s m K->pY P Γ B c s m fun e s' m'=>match e with
  | .normal=>K s' m'
  | _=>False:=by
 intro c
 induction c with
 | skip=>exact fun s m K h=>.of rfl ⟨fun rd X ds D ρ a w hD hs hB _=>wpIn_skip ⟨s,ρ,h,hB,hs,Ext.refl fun i hi=>.inl hi⟩⟩
 | seq x y ihx ihy=>
  intro s m K h;refine pY.seq ?_;obtain⟨h'⟩:=ihx s m _ h;refine⟨fun X ds D ρ a w c₀ cs hD hs hB hm=>wU (h' X ds D ρ a w c₀ cs hD hs hB hm) ?_⟩;rintro e a' cs' w' ⟨s',m',ρ',hq,rest⟩;refine⟨s',m',ρ', ?_,rest⟩;cases e with
  | normal=>exact ihy s' m' K hq
  | _=>exact(show False from hq).elim
 | cond c x y ihx ihy=>
  intro s m K h;simp only[H6] at h;split at h
  ·rename_i b hc;refine pY.cond hc ?_;cases b with
   | true=>exact ihx s m K h
   | false=>exact ihy s m K h
  ·exact h.elim
 | region id ops draw=>
  intro s m K h;cases draw with
  | false=>exact pY.region h
  | true=>exact(show False from h).elim
 | _=>exact fun s m K h=>(show False from h).elim
def DfR(ρ:Nat->cW)(D:Nat->Prop)(O:Nat->Prop)(w:World)(v:AV)(d:Deferred):Prop:=
 ∃(F:FuncId) (first cap:List AV) (vs:List Value) (a2:Array Value),v = .fn (.func F) first cap/\d.target = .fn (.func F) a2/\d.args.toList++a2.toList=vs/\jI ρ D O w (first++cap) vs
def El(P:Program)(Γ:List (Nat × AV))(H:Hk)(rs:List ResultVar)(v:AV)(s:St)(m:gT)(Q:AV->aN->Nat->Prop)(Qp:Value->aN->Nat->Prop):Prop:=
 match v with
 | .fn (.func F) first cap=>match P.funcs[F]? with
  | some fn=>match fn.body with
   | some c=>match fn.name == "runtime.NumGoroutine" with
    | false=>match fn.results.toList with
     | []=>H6 P Γ H c (enter fn.ntmps (first++cap) s.mem s.nx) m fun s' m'=>match m' with
      | .pan x=>Qp x s'.mem s'.nx
      | _=>match Am P rs { s with mem:=s'.mem,nx:=s'.nx } with
       | some r=>Q r s'.mem s'.nx
       | none=>False
     | _::_=>False
    | true=>False
   | none=>False
  | none=>False
 | _=>False
theorem xX{H:Hk}{X:Nat->Prop}{D:Nat->Prop}{ρ ρ0:Nat->cW}{a:Act}{w w0:World}{mem0:aN}{d:Deferred}{v:AV}{fn:Func}{Qr:AV->aN->Nat->Prop}{Qp:Value->aN->Nat->Prop}
  (hD:∀i,D i->i<B) (hs:SR Γ X ([d],0) ρ (dn D B s.nx) s a w) (hB:B<=s.nx) (hv:DfR ρ (dn D B s.nx) (OX X ρ s.mem) w v d) (hext:Ext D ρ0 mem0 w0 ρ (dn D B s.nx) s.mem w)
  (hm:m.mode≠.run) (h:El P Γ H fn.results.toList v s m Qr Qp) :
  Leaves P fn a.tmps (fun e w'=>∃(mem':aN) (nx':Nat) (ρ':Nat->cW),B<=nx'/\MR Γ X ρ' (dn D B nx') mem' w'/\Ext D ρ0 mem0 w0 ρ' (dn D B nx') mem' w' /\
   ((∃(r:AV) (v:Value),e = .returned v/\Qr r mem' nx'/\VR ρ' (dn D B nx') (OX X ρ' mem') w' r v)∨(∃x:Value,e = .panicked [pe x]/\Qp x mem' nx'))) [d] m.mode w:=by
 obtain⟨F,first,cap,vs,a2,rfl,ht,hvs,hvr⟩:=hv;simp only[El] at h;split at h<;>first|exact h.elim|skip
 rename_i fd hf;split at h<;>first|exact h.elim|skip
 rename_i c hc;split at h<;>first|exact h.elim|skip
 rename_i hname;split at h<;>first|exact h.elim|skip
 rename_i hres;have hname':¬fd.name = "runtime.NumGoroutine" := by simpa using hname
 refine⟨hm,.func F,a2,F,vs.toArray,ht, ?_, ?_⟩
 ·rw[ht,←hvs];have e:(d.args.toList++a2.toList).toArray=d.args++a2:=by apply WY;simp
  simp[invoke,callFunc,hf,hc,hname',e]
 ·refine callsD_of_wpS hf hc fun c₀ cs hc0=>?_
  have hwide:∀id,dn (dn D B s.nx) s.nx s.nx id->dn D B s.nx id:=q5 hB (UC _);have hsr:=xY (n:=fd.ntmps) (s8 hD hB) hs.mr hvr (VL _);refine wU ((IN (B:=s.nx) (H:=H) c _ _ _ h).run X [] (dn D B s.nx) ρ _ w c₀ cs (s8 hD hB) hsr (UC _) hc0) ?_;rintro e a' cs' w' ⟨s',m',ρ',hq,rfl,hB',hs',hext'⟩;cases e with
  | normal=>
   have hr0:(results fd a'.tmps).run P w' = .ok (.tuple #[]) w':=by
    have:=vI (P:=P) (w:=w') (fn:=fd) (tmps:=a'.tmps) (vs:=[]) (by rw[hres];simp);simpa using this
   have ext2:=hext.trans ((hext'.sub fun i hi=>.inl hi).wide (q5 hB hB'));obtain⟨m2,mono2,_⟩:=hs'.mr.widen (q5 hB hB');refine⟨hs'.def0.eq,m'.mode,rfl,.tuple #[],hr0, ?_⟩;have hs2:SR Γ X ([],0) ρ' (dn D B s'.nx) { s with mem:=s'.mem,nx:=s'.nx } { tmps:=a.tmps,defers:=[] } w':=
    ⟨m2,A7.start (ds:=([],0)) (VL _),hs.size,fun i u hi=>mono2 _ _ (hext'.vr (hs.slot i u hi))⟩
   have ret:settle m'.mode = .returning->(match Am P fn.results.toList { s with mem:=s'.mem,nx:=s'.nx } with
       | some r=>Qr r s'.mem s'.nx
       | none=>False)->Leaves P fn a.tmps (fun e w'=>∃(mem':aN) (nx':Nat) (ρ':Nat->cW),B<=nx'/\MR Γ X ρ' (dn D B nx') mem' w'/\Ext D ρ0 mem0 w0 ρ' (dn D B nx') mem' w' /\
   ((∃(r:AV) (v:Value),e = .returned v/\Qr r mem' nx'/\VR ρ' (dn D B nx') (OX X ρ' mem') w' r v)∨(∃x:Value,e = .panicked [pe x]/\Qp x mem' nx'))) [] (settle m'.mode) w':=by
    intro hset hq;rw[hset];split at hq
    ·rename_i r hr;obtain⟨x,h1,h2⟩:=vW hs2 hr;exact⟨x,h1,s'.mem,s'.nx,ρ',UQ hB hB',m2,ext2,.inl ⟨r,x,rfl,hq,h2⟩⟩
    ·exact hq.elim
   cases m' with
   | ret=>exact ret rfl hq
   | recd x=>exact ret rfl hq
   | pan x=>exact⟨s'.mem,s'.nx,ρ',UQ hB hB',m2,ext2,.inr ⟨x,rfl,hq⟩⟩
  | _=>exact(show False from hq).elim
end
structure zP(P:Program)(Γ:List (Nat × AV))(B:Nat)(c:Code)(s:St)(Q:Exit->St->Option AV->Prop):Prop where
 run:∀(X:Nat->Prop) (D:Nat->Prop) (ρ:Nat->cW) (a:Act) (w:World),(∀i,D i->i<B)->SR Γ X ([],0) ρ (dn D B s.nx) s a w->B<=s.nx ->
  c.wp P (fun e a' w'=>∃(s':St) (v:Option AV) (ds:List Deferred) (ρ':Nat->cW),Q e s' v/\B<=s'.nx/\SR Γ X (ds,0) ρ' (dn D B s'.nx) s' a' w'/\Ext D ρ s.mem w ρ' (dn D B s'.nx) s'.mem w' /\
   (match v with
    | none=>ds=[]
    | some v=>∃d,ds=[d]/\DfR ρ' (dn D B s'.nx) (OX X ρ' s'.mem) w' v d)) a w
section
variable {P:Program} {Γ:List (Nat × AV)} {B:Nat} {s:St} {Q:Exit->St->Option AV->Prop}
theorem SR.widen{X:Nat->Prop}{ds:List Deferred × Nat}{ρ:Nat->cW}{D D':Nat->Prop}{a:Act}{w:World}(hs:SR Γ X ds ρ D s a w)(hD:∀i,D i->D' i):SR Γ X ds ρ D' s a w:=by
 obtain⟨m,mono,_⟩:=hs.mr.widen hD;exact⟨m,hs.def0,hs.size,fun i v hi=>mono _ _ (hs.slot i v hi)⟩
theorem zP.of{c:Code}(hc:gU c=false)(h:eD P Γ B c s fun e s'=>Q e s' none):zP P Γ B c s Q:=by
 refine⟨fun X D ρ a w hD hs hB=>Go.wp_mono (FU.1 (h.run none X ([],0) D ρ a w hD hs hB (.no hc))) ?_⟩;rintro e a' w' ⟨s',ρ',hq,hB',hs',hext⟩;exact⟨s',none,[],ρ',hq,hB',hs',hext,rfl⟩
theorem DfR.vr{X:Nat->Prop}{D D':Nat->Prop}{ρ ρ':Nat->cW}{mem mem':aN}{w w':World}{v:AV}{d:Deferred}(h:Ext D ρ mem w ρ' D' mem' w')(hv:DfR ρ D (OX X ρ mem) w v d):DfR ρ' D' (OX X ρ' mem') w' v d:=by
 obtain⟨F,first,cap,vs,a2,h1,h2,h3,h4⟩:=hv;exact⟨F,first,cap,vs,a2,h1,h2,h3,h4.1,fun j c x hc hx=>h.vr (h4.2 j c x hc hx)⟩
def R3(P:Program)(Γ:List (Nat × AV))(B:Nat)(y:Code)(Q:Exit->St->Option AV->Prop)(e:Exit)(s:St)(v:Option AV):Prop:=
 match e with
 | .normal=>match v with
  | none=>zP P Γ B y s Q
  | some v=>gU y=false/\eD P Γ s.nx y s fun e s'=>Q e s' (some v)
 | e=>Q e s v
theorem zP.seq{x y:Code}(h:zP P Γ B x s (R3 P Γ B y Q)):zP P Γ B (.seq x y) s Q:=by
 refine⟨fun X D ρ a w hD hs hB=>wp_seq (Go.wp_mono (h.run X D ρ a w hD hs hB) ?_)⟩;rintro e a' w' ⟨s',v,ds,ρ',hq,hB',hs',hext,hv⟩;cases e with
 | normal=>
  cases v with
  | none=>
   have hv:ds=[]:=hv;subst hv;refine Go.wp_mono ((show zP P Γ B y s' Q from hq).run X D ρ' a' w' hD hs' hB') ?_;rintro e a2 w2 ⟨s2,v2,ds2,ρ2,h1,h2,h3,h4,h5⟩;exact⟨s2,v2,ds2,ρ2,h1,h2,h3,hext.trans h4,h5⟩
  | some v=>
   obtain⟨d,rfl,hd⟩:=hv;have key:=(show gU y=false/\eD P Γ s'.nx y s' (fun e s'=>Q e s' (some v)) from hq)
   refine Go.wp_mono (FU.1 (key.2.run none X ([d],0) (dn D B s'.nx) ρ' a' w' (s8 hD hB') (hs'.widen fun i hi=>.inl hi) (UC _) (.no key.1))) ?_;rintro e a2 w2 ⟨s2,ρ2,h1,h2,h3,h4⟩;have hd2:=hd.vr h4;obtain⟨_,mono2,_⟩:=h3.mr.widen (q5 hB' h2);obtain⟨F,first,cap,vs,a2,g1,g2,g3,g4⟩:=hd2;exact⟨s2,some v,[d],ρ2,h1,UQ hB' h2,h3.widen (q5 hB' h2),hext.trans ((h4.sub fun i hi=>.inl hi).wide (q5 hB' h2)),d,rfl,F,first,cap,vs,a2,g1,g2,g3,g4.1,fun j c x hc hx=>mono2 _ _ (g4.2 j c x hc hx)⟩
 | exit i=>exact⟨s',v,ds,ρ',hq,hB',hs',hext,hv⟩
 | goto l=>exact⟨s',v,ds,ρ',hq,hB',hs',hext,hv⟩
 | ret=>exact⟨s',v,ds,ρ',hq,hB',hs',hext,hv⟩
 | panic c=>exact⟨s',v,ds,ρ',hq,hB',hs',hext,hv⟩
 | outgrown=>exact⟨s',v,ds,ρ',hq,hB',hs',hext,hv⟩
def HA(P:Program)(Γ:List (Nat × AV))(ops:List Oper):List Oper->St->(St->AV->Prop)->Prop
 | [],_,_=>False
 | o::r,s,K=>match lD ops s o.guard with
  | some true=>match o.op with
   | .defer c=>match r with
    | []=>match c.args.toList with
     | []=>match c.callee with
      | .value f=>match ev Γ s f with
       | some (.fn (.func F) first cap)=>match eC s o.dst (.tup []) s.mem s.nx with
        | some s'=>K s' (.fn (.func F) first cap)
        | none=>False
       | _=>False
      | _=>False
     | _::_=>False
    | _::_=>False
   | op=>match cP P Γ s op with
    | some (v,mem,nx)=>match eC s o.dst v mem nx with
     | some s'=>HA P Γ ops r s' K
     | none=>False
    | none=>False
  | _=>False
theorem zZ(ops:List Oper):∀(l:List Oper) (s:St) (K:St->AV->Prop),HA P Γ ops l s K ->
  ∀(X:Nat->Prop) (D:Nat->Prop) (ρ:Nat->cW) (a:Act) (w:World) (Q:Exit->Act->World->Prop),(∀i,D i->i<B)->SR Γ X ([],0) ρ (dn D B s.nx) s a w->B<=s.nx ->
   (∀(s':St) (v:AV) (d:Deferred) (ρ':Nat->cW) (a':Act) (w':World),K s' v->B<=s'.nx->SR Γ X ([d],0) ρ' (dn D B s'.nx) s' a' w'->Ext D ρ s.mem w ρ' (dn D B s'.nx) s'.mem w'->DfR ρ' (dn D B s'.nx) (OX X ρ' s'.mem) w' v d->Q .normal a' w')->wpList P ops.toArray Q l a w
 | [],s,K,h,X,D,ρ,a,w,Q,hD,hs,hB,hQ=>h.elim
 | o::r,s,K,h,X,D,ρ,a,w,Q,hD,hs,hB,hQ=>by
  simp only[HA] at h;refine wpList_step fun K' hK'=>?_
  split at h<;>first|exact h.elim|skip
  rename_i hw;rw[gP hs hw];simp only[if_true];split at h
  ·rename_i c hop;split at h<;>first|exact h.elim|skip
   split at h<;>first|exact h.elim|skip
   rename_i hargs;split at h<;>first|exact h.elim|skip
   rename_i f hc;split at h<;>first|exact h.elim|skip
   rename_i F first cap hf
   split at h<;>first|exact h.elim|skip
   rename_i s' hst;have hv:=aU hs hf;generalize he:a.eval f=fv at hv;cases hv with
   | fn _ _ _ a1 a2 l1 l2 r1 r2=>
    have hargs':c.args = #[]:=by apply WY;simpa using hargs
    have e1:(execOp a.eval o).run P w = .ok (.defer { target:=.fn (.func F) a2,args:=a1 }) w:=by
     simp[execOp,hop,resolve,hc,he,Deferred.ofValue,hargs']
    unfold Oper.wp;rw[e1];have hs':SR Γ X ([{ target:=.fn (.func F) a2,args:=a1 }],0) ρ (dn D B s.nx) s { a with defers:={ target:=.fn (.func F) a2,args:=a1 }::a.defers } w:=
     ⟨hs.mr,by rw[hs.def0.eq];exact A7.start (ds:=([_],0)) (VL _),hs.size,hs.slot⟩
    obtain⟨h1,h2,h3⟩:=fV hst hs' hs'.mr sY (fun h=>h) (fun _ _ h=>h);refine hK' _ _ (wpList_nil (hQ s' _ _ ρ _ w h (by rw[h3];exact hB) (by rw[h3];exact h1) (by rw[h2,h3];exact Ext.refl fun i hi=>.inl hi) ?_));refine⟨F,first,cap,a1.toList++a2.toList,a2,rfl,rfl,rfl, ?_⟩;rw[h2,h3];exact jI.append ⟨by simpa using l1,fun j c x h1 h2=>r1 j c x h1 (by simpa using h2)⟩ ⟨by simpa using l2,fun j c x h1 h2=>r2 j c x h1 (by simpa using h2)⟩
  ·rename_i hnd;split at h<;>first|exact h.elim|skip
   rename_i v mem nx hstep;split at h<;>first|exact h.elim|skip
   rename_i s' hst;have hnx:s.nx<=nx:=by rcases yJ hstep with h'|h'<;>omega
   obtain⟨x,n,w',ρ',e1,e2,m1,v1,mono1,ext1⟩:=mH (P:=P) (D:=dn D B s.nx) (D':=dn D B nx) (fun h'=>WA _ (s8 hD hB _ h')) (t7 hnx) hs o (fun e=>.inr ⟨hB,by omega⟩) hstep;obtain⟨h1,h2,h3⟩:=fV hst hs m1 v1 (ext1 _ fun i hi=>hi).mks mono1;have fin:K' (a.put o.dst x) w':=hK' _ _ (zZ ops r s' K h X D ρ' _ w' Q hD (by rw[h3];exact h1) (by rw[h3];exact UQ hB hnx) fun s2 v2 d2 ρ2 a2 w2 k1 k2 k3 k4 k5=>hQ s2 v2 d2 ρ2 a2 w2 k1 k2 k3 ((ext1 D fun i hi=>.inl hi).trans (by rw[←h2];exact k4)) k5);unfold Oper.wp;rw[e1];rcases e2 with rfl|⟨rfl,rfl⟩
   ·exact fin
   ·exact fin
theorem zP.region{id:Nat}{ops:Array Oper}(h:HA P Γ ops.toList ops.toList s fun s' v=>Q .normal s' (some v)):zP P Γ B (.region id ops false) s Q:=by
 refine⟨fun X D ρ a w hD hs hB=>wp_region_list ?_⟩;have:=zZ ops.toList ops.toList s _ h X D ρ a w (fun e a' w'=>∃(s':St) (v:Option AV) (ds:List Deferred) (ρ':Nat->cW),Q e s' v/\B<=s'.nx/\SR Γ X (ds,0) ρ' (dn D B s'.nx) s' a' w'/\Ext D ρ s.mem w ρ' (dn D B s'.nx) s'.mem w' /\
   (match v with
    | none=>ds=[]
    | some v=>∃d,ds=[d]/\DfR ρ' (dn D B s'.nx) (OX X ρ' s'.mem) w' v d)) hD hs hB
  (fun s' v d ρ' a' w' h1 h2 h3 h4 h5=>⟨s',some v,[d],ρ',h1,h2,h3,h4,d,rfl,h5⟩)
 simpa using this
def OE(P:Program)(Γ:List (Nat × AV))(H:Hk)(rs:List ResultVar)(Q:AV->aN->Nat->Prop)(Qp:Value->aN->Nat->Prop)(s:St)(v:Option AV):Prop:=
 match v with
 | none=>match Am P rs s with
  | some r=>Q r s.mem s.nx
  | none=>False
 | some v=>El P Γ H rs v s .ret Q Qp
def TC(P:Program)(Γ:List (Nat × AV))(H:Hk)(rs:List ResultVar)(Q:AV->aN->Nat->Prop)(Qp:Value->aN->Nat->Prop)(x:Value)(s:St)(v:Option AV):Prop:=
 match v with
 | none=>Qp x s.mem s.nx
 | some v=>El P Γ H rs v s (.pan x) Q Qp
def LR(P:Program)(Γ:List (Nat × AV))(H:Hk)(rs:List ResultVar)(Q:AV->aN->Nat->Prop)(Qp:Value->aN->Nat->Prop):Exit->St->Option AV->Prop:=fun e s v=>
 match e with
 | .normal=>OE P Γ H rs Q Qp s v
 | .ret=>OE P Γ H rs Q Qp s v
 | .panic [⟨x,false,false⟩]=>TC P Γ H rs Q Qp x s v
 | _=>False
theorem Aq{H:Hk}{F:FuncId}{fn:Func}{c:Code}{args:List AV}{mem:aN}{nx:Nat}{Q:AV->aN->Nat->Prop}{Qp:Value->aN->Nat->Prop}(hf:P.funcs[F]? = some fn)(hb:fn.body=some c)
  (h:zP P Γ nx c (enter fn.ntmps args mem nx) (LR P Γ H fn.results.toList Q Qp)) (hF:Nat.beq F YF=false:=by rfl):fY P Γ F args mem nx Q Qp:=by
 refine⟨fun X D ρ w vs hD hm hv=>.of hF (calls_of_wp_defers hf hb ?_)⟩;refine Go.wp_mono (h.run X D ρ _ w hD (xY hD hm hv (VL _)) (UC _)) ?_;rintro e a' w' ⟨s',v,ds,ρ',hq,hB',hs',hext,hv⟩;have ret:OE P Γ H fn.results.toList Q Qp s' v->Leaves P fn a'.tmps (fun e w'=>∃(mem':aN) (nx':Nat) (ρ':Nat->cW),nx<=nx'/\MR Γ X ρ' (dn D nx nx') mem' w'/\Ext D ρ mem w ρ' (dn D nx nx') mem' w' /\
   ((∃(r:AV) (v:Value),e = .returned v/\Q r mem' nx'/\VR ρ' (dn D nx nx') (OX X ρ' mem') w' r v)∨(∃x:Value,e = .panicked [pe x]/\Qp x mem' nx'))) a'.defers .returning w':=by
  intro hq;cases v with
  | none=>
   have hv:ds=[]:=hv;subst hv;rw[hs'.def0.eq];simp only[OE] at hq;split at hq
   ·rename_i r hr;obtain⟨x,h1,h2⟩:=vW hs' hr;exact⟨x,h1,s'.mem,s'.nx,ρ',hB',hs'.mr,hext,.inl ⟨r,x,rfl,hq,h2⟩⟩
   ·exact hq.elim
  | some v=>
   obtain⟨d,rfl,hd⟩:=hv;rw[hs'.def0.eq];exact xX (B:=nx) (m:=.ret) hD hs' hB' hd hext (by simp[gT.mode]) hq
 cases e with
 | normal=>exact ret hq
 | ret=>exact ret hq
 | panic ch=>
  unfold LR at hq;split at hq
  ·rename_i e;cases e
  ·rename_i e;cases e
  ·rename_i x e;cases e
   show Leaves P fn a'.tmps _ a'.defers (.panicking [pe x]) w'
   cases v with
   | none=>
    have hv:ds=[]:=hv;subst hv;rw[hs'.def0.eq];exact⟨s'.mem,s'.nx,ρ',hB',hs'.mr,hext,.inr ⟨x,rfl,hq⟩⟩
   | some v=>
    obtain⟨d,rfl,hd⟩:=hv;rw[hs'.def0.eq];exact xX (B:=nx) (m:=.pan x) hD hs' hB' hd hext (by simp[gT.mode]) hq
  ·exact hq.elim
 | _=>exact(show False from hq).elim
end
end Go.Ax
namespace Go.Ax
open Go
def RN(F:Nat):List Nat->Bool
 | []=>false
 | G::r=>match Nat.beq G F with
  | true=>true
  | false=>RN F r
def Py:List Oper->Bool
 | []=>false
 | o::r=>match o.op with
  | .defer _=>true
  | _=>Py r
def Ha(cl:Bool)(P:Program)(Γ:List (Nat × AV))(H:Hk):Code->St->(Exit->St->Option AV->Prop)->Prop
 | .seq x y,s,Q=>Ha cl P Γ H x s fun e s' v=>match e with
  | .normal=>match v with
   | none=>Ha cl P Γ H y s' Q
   | some v=>match gU y with
    | false=>Ao cl P Γ H y s' fun e s''=>Q e s'' (some v)
    | true=>False
  | e=>Q e s' v
 | .region id ops draw,s,Q=>match Py ops.toList with
  | true=>match draw with
   | false=>HA P Γ ops.toList ops.toList s fun s' v=>Q .normal s' (some v)
   | true=>False
  | false=>Ao cl P Γ H (.region id ops draw) s fun e s'=>Q e s' none
 | c,s,Q=>match gU c with
  | false=>Ao cl P Γ H c s fun e s'=>Q e s' none
  | true=>False
theorem HZ{cl:Bool}{P:Program}{Γ:List (Nat × AV)}{H:Hk}(hH:∀B,zY P Γ B H)(B:Nat):∀(c:Code) (s:St) (Q:Exit->St->Option AV->Prop),Ha cl P Γ H c s Q->zP P Γ B c s Q:=by
 intro c
 induction c with
 | seq x y ihx ihy=>
  intro s Q h;simp only[Ha] at h;refine zP.seq ?_;obtain⟨h'⟩:=ihx s _ h;refine⟨fun X D ρ a w hD hs hB=>Go.wp_mono (h' X D ρ a w hD hs hB) ?_⟩;rintro e a' w' ⟨s',v,ds,ρ',hq,rest⟩;refine⟨s',v,ds,ρ', ?_,rest⟩;cases e with
  | normal=>
   cases v with
   | none=>exact ihy s' Q hq
   | some v=>
    simp only at hq;split at hq
    ·rename_i hr;exact⟨hr,eY (hH s'.nx) y s' _ hq⟩
    ·exact hq.elim
  | exit i=>exact hq
  | goto l=>exact hq
  | ret=>exact hq
  | panic c=>exact hq
  | outgrown=>exact hq
 | region id ops draw=>
  intro s Q h;simp only[Ha] at h;split at h
  ·split at h
   ·exact zP.region h
   ·exact h.elim
  ·exact .of rfl (eY (hH B) _ _ _ h)
 | _=>
  intro s Q h;simp only[Ha] at h;split at h
  ·rename_i hr;exact .of hr (eY (hH B) _ _ _ h)
  ·exact h.elim
end Go.Ax
namespace Go.Ax
open Go
section
variable {P:Program} {Γ:List (Nat × AV)} {B:Nat}
structure rW(P:Program)(Γ:List (Nat × AV))(B:Nat)(ops l:List Oper)(s:St)(K:St->Prop)(Kp:Value->St->Prop):Prop where
 run:uI P Γ (Gq P Γ B) ops l s K Kp
def K8(P:Program)(Γ:List (Nat × AV))(B:Nat)(ops:List Oper)(K:St->Prop)(Kp:Value->St->Prop)(next:List Oper->St->Prop)(l:List Oper)(s:St):Prop:=
 match l with
 | []=>K s
 | o::r=>Fe s fun sl mem nx nt=>sR ops sl o.guard
   (HJ false P Γ (Gq P Γ B) sl mem nx o.op (fun v mem nx=>mL s o.dst v mem nx fun s'=>next r s') fun x mem nx=>Kp x ⟨sl,mem,nx,nt⟩)
   (mL s o.dst (.tup []) mem nx fun s'=>next r s')
theorem xG{ops:List Oper}{K:St->Prop}{Kp:Value->St->Prop}{next:List Oper->St->Prop}(hn:∀r s,next r s->rW P Γ B ops r s K Kp){l:List Oper}{s:St}(h:K8 P Γ B ops K Kp next l s):rW P Γ B ops l s K Kp:=by
 refine⟨?_⟩;cases l with
 | nil=>exact h
 | cons o r=>
  have h:sR ops s.sl o.guard (HJ false P Γ (Gq P Γ B) s.sl s.mem s.nx o.op (fun v mem nx=>mL s o.dst v mem nx fun s'=>next r s') fun x mem nx=>Kp x ⟨s.sl,mem,nx,s.nt⟩) (mL s o.dst (.tup []) s.mem s.nx fun s'=>next r s'):=h;simp only[uI];rcases uE h with⟨h1,h⟩|⟨h1,h⟩
  ·simp only[h1];rcases Ir h with⟨v,m,n,h2,h⟩|⟨h2,F,l,h3,h⟩|⟨h2,h3,y,h4,h⟩
   ·obtain⟨s',h4,h⟩:=eP h;simp only[h2,h4];exact(hn _ _ h).run
   ·simp only[h2,h3];refine(show fY P Γ F l s.mem s.nx _ _ from h).mono (fun v m n h=>?_) fun x m n h=>h
    obtain⟨s',h4,h⟩:=eP h;simp only[h4];exact(hn _ _ h).run
   ·simp only[h2,h3,h4];exact h
  ·obtain⟨s',h4,h⟩:=eP h;simp only[h1,h4];exact(hn _ _ h).run
def SY(P:Program)(Γ:List (Nat × AV))(B:Nat)(ops:List Oper)(K:St->Prop)(Kp:Value->St->Prop)(l:List Oper)(s:St):Prop:=rW P Γ B ops l s K Kp
theorem PJ{ops:List Oper}{K:St->Prop}{Kp:Value->St->Prop}(l:List Oper)(s:St)(h:SY P Γ B ops K Kp l s):rW P Γ B ops l s K Kp:=h
def Sv(P:Program)(Γ:List (Nat × AV))(B:Nat)(ops:List Oper)(K:St->Prop)(Kp:Value->St->Prop)(l:List Oper)(s:St):Prop:=K8 P Γ B ops K Kp (SY P Γ B ops K Kp) l s
theorem Nw{ops:List Oper}{K:St->Prop}{Kp:Value->St->Prop}(l:List Oper)(s:St)(h:Sv P Γ B ops K Kp l s):rW P Γ B ops l s K Kp:=xG PJ h
def Rc(P:Program)(Γ:List (Nat × AV))(B:Nat)(ops:List Oper)(K:St->Prop)(Kp:Value->St->Prop)(l:List Oper)(s:St):Prop:=K8 P Γ B ops K Kp (Sv P Γ B ops K Kp) l s
theorem Nf{ops:List Oper}{K:St->Prop}{Kp:Value->St->Prop}(l:List Oper)(s:St)(h:Rc P Γ B ops K Kp l s):rW P Γ B ops l s K Kp:=xG Nw h
def Rm(P:Program)(Γ:List (Nat × AV))(B:Nat)(ops:List Oper)(K:St->Prop)(Kp:Value->St->Prop)(l:List Oper)(s:St):Prop:=K8 P Γ B ops K Kp (Rc P Γ B ops K Kp) l s
theorem O4{ops:List Oper}{K:St->Prop}{Kp:Value->St->Prop}(l:List Oper)(s:St)(h:Rm P Γ B ops K Kp l s):rW P Γ B ops l s K Kp:=xG Nf h
def SH(P:Program)(Γ:List (Nat × AV))(B:Nat)(ops:List Oper)(K:St->Prop)(Kp:Value->St->Prop)(l:List Oper)(s:St):Prop:=K8 P Γ B ops K Kp (Rm P Γ B ops K Kp) l s
theorem ON{ops:List Oper}{K:St->Prop}{Kp:Value->St->Prop}(l:List Oper)(s:St)(h:SH P Γ B ops K Kp l s):rW P Γ B ops l s K Kp:=xG O4 h
def Sb(P:Program)(Γ:List (Nat × AV))(B:Nat)(ops:List Oper)(K:St->Prop)(Kp:Value->St->Prop)(l:List Oper)(s:St):Prop:=K8 P Γ B ops K Kp (SH P Γ B ops K Kp) l s
theorem Ny{ops:List Oper}{K:St->Prop}{Kp:Value->St->Prop}(l:List Oper)(s:St)(h:Sb P Γ B ops K Kp l s):rW P Γ B ops l s K Kp:=xG ON h
theorem rW.many{ops l:List Oper}{s:St}{K:St->Prop}{Kp:Value->St->Prop}(h:Sb P Γ B ops K Kp l s):rW P Γ B ops l s K Kp:=Ny l s h
structure Tq(P:Program)(Γ:List (Nat × AV))(B:Nat)(ops:List Oper)(tr:List (List Nat))(base:Nat)(K:St->Prop)(Kp:Value->aN->Nat->Prop)(l:List Nat)(recs:List Ay)(s:St):Prop where
 run:oU P Γ (Gq P Γ B) ops tr base K Kp l recs s
end
end Go.Ax
namespace Go.Ax
open Go
theorem aZ.frz{P:Program}{Γ:List (Nat × AV)}{F:FuncId}{args asz:List AV}{r:AV}{mem:aN}{nx:Nat}{K:AV->aN->Nat->Prop}(h:aZ P Γ F asz r)(ids:List Nat)(hΓ:∀p∈Γ,NN p.2)(hargs:jJ (kU ids mem) [] args asz)(hr:NN r)(hk:K r (iZ ids mem) nx) :
  aE P Γ F args mem nx K:=by
 refine⟨fun X D ρ w vs hD hm hv=>?_⟩;refine(aE.use (K:=K) (nx:=nx) hΓ h [] (m1:=kU ids mem) (rest:=iZ ids mem) ⟨fun p hp'=>(eF.1 hp').1,fun p hp'=>(dF.1 hp').1,fun p hp'=>?_,fun p h1 q h2=>?_, ?_⟩ ?_ hargs (fun p hp=>by cases hp) (by simp) (fun i j k h=>by simp[lk] at h) (fun id i hl=>by simp[lk] at hl) ?_).run X D ρ w vs hD hm hv
 ·cases hi:Aa p.1 ids with
  | true=>left;exact eF.2 ⟨hp',hi⟩
  | false=>right;exact dF.2 ⟨hp',hi⟩
 ·have a:=(eF.1 h1).2;have b:=(dF.1 h2).2;intro e;rw[e,b] at a;cases a
 ·exact hm.nod.sublist ((nF mem).map _)
 ·exact hm.nod.sublist ((nH mem).map _)
 ·rintro r' m n ⟨rfl,rfl,rfl⟩ _;exact⟨[],r',[],nx,UC _,.same r' hr,(fun p hp=>by cases hp),by simp,(fun i j k h=>by simp[lk] at h),(fun i id hl=>by simp[lk] at hl),(fun p hp=>by cases hp),hk⟩
end Go.Ax
