/- A part of the proof. -/
import Derived.Test.YtidjhgajglebnaaGreatDoorAx12
import Derived.Recover
set_option linter.unusedVariables false
set_option linter.unusedSimpArgs false
namespace Go.Proofs.YtidjhgajglebnaaGreatDoor
open Go Go.Ax Go.Proofs Tryz
set_option maxRecDepth 100000
set_option maxHeartbeats 16000000
def i7:Option Nat->AV
 | none=>.agg [.bool false,.il 1 [],.bool false]
 | some n=>.agg [.bool false,.il 1 (bX (dg 4294967296 n)),.bool true]
theorem dP(o:Option Nat):NN (i7 o):=by
 cases o with
 | none=>exact .agg' (.cons (tB _) (.cons (tU []) (.cons (tB _) .nil)))
 | some n=>exact .agg' (.cons (tB _) (.cons (tU _) (.cons (tB _) .nil)))
theorem dF(n:Nat):kC (n:Int) = .agg [.bool false,.il 1 (bX (dg 4294967296 n))]:=by
 rw[lD,Zc];rw[ZC (show ¬((n:Int)<0) by omega)]
theorem DJ{n:Nat}(h:n<=mO 256):oV (n:Int)=true:=Ov h rfl (by decide)
theorem AU{n:Nat}(h:n<=mO 256):(dg 4294967296 (n:Int).natAbs).length<=512:=S6 (DJ h)
theorem YJ(a b:Nat)(h:a+b<=mO 256):aT prog [] 76 [kC a,kC b] (kC ((a+b:Nat):Int)):=by
 have hA:=Wc (a:Int) (b:Int) (by have:=AU (show a<=mO 256 by omega);omega) (by have:=AU (show b<=mO 256 by omega);omega);have hf:oV ((a:Int)+(b:Int))=true:=by have:=DJ h;rwa [Int.natCast_add] at this
 unfold FQ at hA;rw[Yt hf,←Int.natCast_add] at hA;rw[dF,dF] at hA ⊢;rw[dF] at hA ⊢;have nx:NN (.agg [.bool false,.il 1 (bX (dg 4294967296 a))]):=.agg' (.cons (tB _) (.cons (tU _) .nil));have ny:NN (.agg [.bool false,.il 1 (bX (dg 4294967296 b))]):=.agg' (.cons (tB _) (.cons (tU _) .nil));have nz:NN (.agg [.bool false,.il 1 (bX (dg 4294967296 (a+b)))]):=.agg' (.cons (tB _) (.cons (tU _) .nil));generalize bX (dg 4294967296 a)=x at *;generalize bX (dg 4294967296 b)=y at *;generalize bX (dg 4294967296 (a+b))=z at *;refine aD bD func76 rfl ?_;refine Rr ?_;refine hA.go ?_ (.cons nx (.cons ny .nil)) (.tup' (.cons nz (.cons nn .nil)));refine Rr ?_;exact aA nz ⟨rfl,rfl,rfl⟩
theorem Wz(a b:Nat)(ha:a<=mO 256)(hb:b<=mO 256)(h:a*b<=mO 256):aT prog [] 77 [kC a,kC b] (kC ((a*b:Nat):Int)):=by
 have hA:=We (a:Int) (b:Int) (by have:=AU ha;omega) (by have:=AU hb;omega);have hf:oV ((a:Int)*(b:Int))=true:=by have:=DJ h;rwa [Int.natCast_mul] at this
 unfold FQ at hA;rw[Yt hf,←Int.natCast_mul] at hA;rw[dF,dF] at hA ⊢;rw[dF] at hA ⊢;have nx:NN (.agg [.bool false,.il 1 (bX (dg 4294967296 a))]):=.agg' (.cons (tB _) (.cons (tU _) .nil));have ny:NN (.agg [.bool false,.il 1 (bX (dg 4294967296 b))]):=.agg' (.cons (tB _) (.cons (tU _) .nil));have nz:NN (.agg [.bool false,.il 1 (bX (dg 4294967296 (a*b)))]):=.agg' (.cons (tB _) (.cons (tU _) .nil));generalize bX (dg 4294967296 a)=x at *;generalize bX (dg 4294967296 b)=y at *;generalize bX (dg 4294967296 (a*b))=z at *;refine aD bD func77 rfl ?_;refine Rr ?_;refine hA.go ?_ (.cons nx (.cons ny .nil)) (.tup' (.cons nz (.cons nn .nil)));refine Rr ?_;exact aA nz ⟨rfl,rfl,rfl⟩
theorem Vm(p:AV)(np:NN p)(c:Int):aT prog [] 78 [p,.int .i64 c] (kC ((1:Nat):Int)):=by
 have hF:=QI 1 ⟨by omega,by omega⟩;rw[show (1:Int)=((1:Nat):Int) from rfl,dF] at hF;rw[dF];have nz:NN (.agg [.bool false,.il 1 (bX (dg 4294967296 1))]):=.agg' (.cons (tB _) (.cons (tU _) .nil));generalize bX (dg 4294967296 1)=z at *;refine aD bD func78 rfl ?_;refine Rr ?_;refine hF.go ?_ (.cons nn .nil) nz;refine Rr ?_;exact aA nz ⟨rfl,rfl,rfl⟩
def KH(A:List Nd)(mid:Nat):AV:=.agg [.il 12 (bG A),.bool false,.il 1 (bX (dg 4294967296 1)),.fn (.func 76) [] [],.fn (.func 77) [] [],.fn (.func 78) [] [],.fn (.func 79) [] [],.mp mid]
def uU(A:List Nd)(L:List Key):aQ:=[(0,.row 150 8 [KH A 1]),(1,.mapb (rP i7 aW A L))]
theorem C8(F:FuncId):NN (.fn (.func F) [] []):=.fn _ _ _ (by simp) (by simp)
theorem uF{mem:aQ}{σ:List (Nat × Nat)}{A:List Nd}{i j:Nat}(h:lk σ i=some j):C7 mem σ (KH A i) (KH A j):=
 .agg (.cons (.same _ (.il' (aP A))) (.cons (.same _ (tB _)) (.cons (.same _ (tU _)) (.cons (.same _ (C8 _)) (.cons (.same _ (C8 _)) (.cons (.same _ (C8 _)) (.cons (.same _ (C8 _)) (.cons (.mp _ _ h) .nil))))))))
theorem tZ{mem:aQ}{σ:List (Nat × Nat)}{T:Type}{fd:Option T->AV}{g:Cf T}{A:List Nd}(hn:∀o,NN (fd o))(L:List Key):XX mem σ (rP fd g A L) (rP fd g A L):=⟨rfl,fun i e e' h1 h2=>by
 rw[h1] at h2;cases h2;unfold rP at h1;rw[ZO] at h1;cases hm:L[i]? with
 | none=>rw[hm] at h1;cases h1
 | some k=>
  rw[hm] at h1;cases h1;exact⟨.same _ (ST k),.same _ (hn _)⟩⟩
theorem dD{mem:aQ}{σ:List (Nat × Nat)}{A:List Nd}{L:List Key}{i j:Nat}(s0:lk σ i=some 0)(s1:lk σ j=some 1)(m0:lk mem i=some (.row 150 8 [KH A j]))(m1:lk mem j=some (.mapb (rP i7 aW A L))):dV mem σ (uU A L):=
 ⟨⟨i,_,s0,m0,.cons (uF s1) .nil⟩,⟨j,_,s1,m1,tZ dP L⟩,trivial⟩
theorem Hf{mem:aQ}{σ:List (Nat × Nat)}:Cv mem σ (.agg [.bool false,.nsl,.bool false]) (i7 none):=.agg' (.cons (.same _ (tB _)) (.cons (.nil 1) (.cons (.same _ (tB _)) .nil)))
theorem AN{n:Nat}(h:vI (some n)):n<=mO 256:=by
 obtain⟨m,h1,h2⟩:=h;unfold uT at h2;split at h2
 ·cases h2
 ·injection h2 with h2;omega
theorem Vo{A:List Nd}(L:List Key)(a b:Option Nat)(ha:vI a)(hb:vI b)(h:vI (Go.Ax.d9 aW a b)) :
  aF prog [] 81 [.ptr 0 0 0,i7 a,i7 b] (uU A L) 2 fun r m k=>r=i7 (Go.Ax.d9 aW a b)/\m=uU A L/\k=2:=by
 refine aD bD func81 rfl ?_;cases a with
 | none=>
  cases b with
  | none=>
   refine Rr ?_;exact bF (n':=2) (m':=uU A L) [(0,0),(1,1)] rfl (dD (i:=0) (j:=1) rfl rfl rfl rfl) Hf ⟨rfl,rfl,rfl⟩
  | some y=>
   refine Rr ?_;exact bF (n':=2) (m':=uU A L) [(0,0),(1,1)] rfl (dD (i:=0) (j:=1) rfl rfl rfl rfl) Hf ⟨rfl,rfl,rfl⟩
 | some x=>
  cases b with
  | none=>
   refine Rr ?_;exact bF (n':=2) (m':=uU A L) [(0,0),(1,1)] rfl (dD (i:=0) (j:=1) rfl rfl rfl rfl) Hf ⟨rfl,rfl,rfl⟩
  | some y=>
   have hP:=Wz x y (AN ha) (AN hb) (AN h);rw[dF,dF,dF] at hP;have nx:NN (.agg [.bool false,.il 1 (bX (dg 4294967296 x))]):=.agg' (.cons (tB _) (.cons (tU _) .nil));have ny:NN (.agg [.bool false,.il 1 (bX (dg 4294967296 y))]):=.agg' (.cons (tB _) (.cons (tU _) .nil));have nz:NN (.agg [.bool false,.il 1 (bX (dg 4294967296 (x*y)))]):=.agg' (.cons (tB _) (.cons (tU _) .nil));have hr:i7 (Go.Ax.d9 aW (some x) (some y)) = .agg [.bool false,.il 1 (bX (dg 4294967296 (x*y))),.bool true]:=rfl;rw[hr];refine Rr ?_;refine hP.go ?_ (.cons nx (.cons ny .nil)) nz;refine Rt ?_;exact bF (n':=2) (m':=uU A L) [(0,0),(1,1)] rfl (dD (i:=0) (j:=1) rfl rfl rfl rfl) (.same _ (dP (some (x*y)))) ⟨rfl,rfl,rfl⟩
theorem WA{A:List Nd}(L:List Key)(a b:Option Nat)(ha:vI a)(hb:vI b)(h:vI (iL aW a b)) :
  aF prog [] 82 [.ptr 0 0 0,i7 a,i7 b] (uU A L) 2 fun r m k=>r=i7 (iL aW a b)/\m=uU A L/\k=2:=by
 refine aD bD func82 rfl ?_;cases a with
 | none=>
  have hr:i7 (iL aW none b)=i7 b:=by cases b<;>rfl
  rw[hr];cases b with
  | none=>
   refine Rr ?_;exact bF (n':=2) (m':=uU A L) [(0,0),(1,1)] rfl (dD (i:=0) (j:=1) rfl rfl rfl rfl) (.same _ (dP none)) ⟨rfl,rfl,rfl⟩
  | some y=>
   refine Rr ?_;exact bF (n':=2) (m':=uU A L) [(0,0),(1,1)] rfl (dD (i:=0) (j:=1) rfl rfl rfl rfl) (.same _ (dP (some y))) ⟨rfl,rfl,rfl⟩
 | some x=>
  cases b with
  | none=>
   refine Rr ?_;exact bF (n':=2) (m':=uU A L) [(0,0),(1,1)] rfl (dD (i:=0) (j:=1) rfl rfl rfl rfl) (.same _ (dP (some x))) ⟨rfl,rfl,rfl⟩
  | some y=>
   have hP:=YJ x y (AN h);rw[dF,dF,dF] at hP;have nx:NN (.agg [.bool false,.il 1 (bX (dg 4294967296 x))]):=.agg' (.cons (tB _) (.cons (tU _) .nil));have ny:NN (.agg [.bool false,.il 1 (bX (dg 4294967296 y))]):=.agg' (.cons (tB _) (.cons (tU _) .nil));have nz:NN (.agg [.bool false,.il 1 (bX (dg 4294967296 (x+y)))]):=.agg' (.cons (tB _) (.cons (tU _) .nil));have hr:i7 (iL aW (some x) (some y)) = .agg [.bool false,.il 1 (bX (dg 4294967296 (x+y))),.bool true]:=rfl;rw[hr];refine Rr ?_;refine hP.go ?_ (.cons nx (.cons ny .nil)) nz;refine Rt ?_;exact bF (n':=2) (m':=uU A L) [(0,0),(1,1)] rfl (dD (i:=0) (j:=1) rfl rfl rfl rfl) (.same _ (dP (some (x+y)))) ⟨rfl,rfl,rfl⟩
end Go.Proofs.YtidjhgajglebnaaGreatDoor
namespace Go.Ax
open Go
inductive iV where
 | ret
 | pan (x:Value)
 | recd (x:Value)
def iV.mode:iV->FrameMode
 | .ret=>.returning
 | .pan x=>.panicking [pe x]
 | .recd x=>.panicking [{ v:=x,recovered:=true }]
def M2:List Value->Option (List AV)
 | []=>some []
 | .int k n::r=>match M2 r with
  | some l=>some (.int k n::l)
  | none=>none
 | .bool b::r=>match M2 r with
  | some l=>some (.bool b::l)
  | none=>none
 | _=>none
def Xp:Value->Option AV
 | .iface t (.agg arr)=>match M2 arr.toList with
  | some l=>some (.ifc t (.agg l))
  | none=>none
 | _=>none
theorem El{ρ:Nat->dG}{D:Nat->Prop}{O:Nat->Prop}{w:World}:∀{xs:List Value} {l:List AV},M2 xs=some l->KM ρ D O w l xs
 | [],l,h=>by simp only[M2] at h;cases h;exact⟨.nil,by simp⟩
 | x::r,l,h=>by
  cases x<;>simp only[M2] at h<;>first|(cases h;done)|skip
  all_goals
   split at h
   ·rename_i l' hl;cases h;obtain⟨h1,h2⟩:=El (ρ:=ρ) (D:=D) (O:=O) (w:=w) hl;refine⟨.cons ?_ h1,fun y hy=>?_⟩
    ·first|exact .int _ _|exact .bool _
    ·rcases Yr.1 hy with rfl|hy
     ·rfl
     ·exact h2 y hy
   ·cases h
theorem OF{ρ:Nat->dG}{D:Nat->Prop}{O:Nat->Prop}{w:World}{x:Value}{v:AV}(h:Xp x=some v):VR ρ D O w v x:=by
 unfold Xp at h;split at h
 ·rename_i t arr;split at h
  ·rename_i l hl;cases h;obtain⟨h1,h2⟩:=El (ρ:=ρ) (D:=D) (O:=O) (w:=w) hl;exact .ifc t _ _ (.agg l arr (by have:=h1.1;simpa using this) (fun y hy=>h2 y (by simpa using hy)) fun j c y hj hy=>h1.2 j c y hj (by simpa using hy))
  ·cases h
 ·cases h
structure tT(P:Program)(Γ:List (Nat × AV))(B:Nat)(c:Code)(s:St)(m:iV)(Q:Exit->St->iV->Prop):Prop where
 run:∀(X:Nat->Prop) (ds:List Deferred) (D:Nat->Prop) (ρ:Nat->dG) (a:Act) (w:World) (c₀:Frame) (cs:List Frame),(∀i,D i->i<B)->SR Γ X (ds,0) ρ (dn D B s.nx) s a w->B<=s.nx->c₀.mode=m.mode ->
  c.wpS P (fun e a' cs' w'=>∃(s':St) (m':iV) (ρ':Nat->dG),Q e s' m'/\cs'={ c₀ with mode:=m'.mode }::cs/\B<=s'.nx/\SR Γ X (ds,0) ρ' (dn D B s'.nx) s' a' w'/\Ext D ρ s.mem w ρ' (dn D B s'.nx) s'.mem w') a (c₀::cs) w
section
variable {P:Program} {Γ:List (Nat × AV)} {B:Nat} {s:St} {m:iV} {Q:Exit->St->iV->Prop}
theorem uG{c₀:Frame}{u:FrameMode}(h:c₀.mode=u):{ c₀ with mode:=u }=c₀:=by subst h;rfl
theorem tT.of{c:Code}(hc:iD c=false)(h:fR P Γ B c s fun e s'=>Q e s' m):tT P Γ B c s m Q:=by
 refine⟨fun X ds D ρ a w c₀ cs hD hs hB hm=>wpS_of_wp (Go.wp_mono (HZ.1 (h.run none X (ds,0) D ρ a w hD hs hB (.no hc))) ?_)⟩;rintro e a' w' ⟨s',ρ',hq,hB',hs',hext⟩;exact⟨s',m,ρ',hq,by rw[uG hm],hB',hs',hext⟩
def WJ(P:Program)(Γ:List (Nat × AV))(B:Nat)(y:Code)(Q:Exit->St->iV->Prop)(e:Exit)(s:St)(m:iV):Prop:=
 match e with
 | .normal=>tT P Γ B y s m Q
 | e=>Q e s m
theorem AO{c:Code}{Q Q':Exit->Act->List Frame->World->Prop}{a:Act}{cs:List Frame}{w:World}(h:c.wpS P Q a cs w)(hq:∀e a cs w,Q e a cs w->Q' e a cs w):c.wpS P Q' a cs w:=
 fun b k hb hr=>let ⟨e,a',cs',w',q,r⟩:=h b k hb hr;⟨e,a',cs',w',hq _ _ _ _ q,r⟩
theorem tT.seq{x y:Code}(h:tT P Γ B x s m (WJ P Γ B y Q)):tT P Γ B (.seq x y) s m Q:=by
 refine⟨fun X ds D ρ a w c₀ cs hD hs hB hm=>wpS_seq (AO (h.run X ds D ρ a w c₀ cs hD hs hB hm) ?_)⟩;rintro e a' cs' w' ⟨s',m',ρ',hq,rfl,hB',hs',hext⟩;cases e with
 | normal=>
  refine AO ((show tT P Γ B y s' m' Q from hq).run X ds D ρ' a' w' { c₀ with mode:=m'.mode } cs hD hs' hB' rfl) ?_;rintro e a2 cs2 w2 ⟨s2,m2,ρ2,h1,rfl,h2,h3,h4⟩;exact⟨s2,m2,ρ2,h1,rfl,h2,h3,hext.trans h4⟩
 | exit i=>exact⟨s',m',ρ',hq,rfl,hB',hs',hext⟩
 | goto l=>exact⟨s',m',ρ',hq,rfl,hB',hs',hext⟩
 | ret=>exact⟨s',m',ρ',hq,rfl,hB',hs',hext⟩
 | panic c=>exact⟨s',m',ρ',hq,rfl,hB',hs',hext⟩
 | outgrown=>exact⟨s',m',ρ',hq,rfl,hB',hs',hext⟩
theorem tT.cond{c:Operand}{x y:Code}{b:Bool}(hc:ev Γ s c=some (.bool b))(h:RR b (tT P Γ B x s m Q) (tT P Γ B y s m Q)):tT P Γ B (.cond c x y) s m Q:=by
 refine⟨fun X ds D ρ a w c₀ cs hD hs hB hm=>?_⟩;have hv:=aY hs hc;generalize he:a.eval c=cv at hv;cases hv;cases b with
 | true=>exact wpS_cond he ((show tT P Γ B x s m Q from h).run X ds D ρ a w c₀ cs hD hs hB hm)
 | false=>exact wpS_cond he ((show tT P Γ B y s m Q from h).run X ds D ρ a w c₀ cs hD hs hB hm)
def Qo(op:Op):Bool:=
 match op with
 | .call c=>match c.callee with
  | .builtin .recover=>true
  | _=>false
 | _=>false
def XC:iV->Option (AV × iV)
 | .ret=>some (.nif,.ret)
 | .pan x=>match Xp x with
  | some v=>some (v,.recd x)
  | none=>none
 | .recd x=>some (.nif,.recd x)
def Ey(P:Program)(Γ:List (Nat × AV))(ops:List Oper):List Oper->St->iV->(St->iV->Prop)->Prop
 | [],s,m,K=>K s m
 | o::r,s,m,K=>match nP ops s o.guard with
  | none=>False
  | some false=>match fH s o.dst (.tup []) s.mem s.nx with
   | some s'=>Ey P Γ ops r s' m K
   | none=>False
  | some true=>match Qo o.op with
   | true=>match XC m with
    | some (v,m')=>match fH s o.dst v s.mem s.nx with
     | some s'=>Ey P Γ ops r s' m' K
     | none=>False
    | none=>False
   | false=>match dA P Γ s o.op with
    | some (v,mem,nx)=>match fH s o.dst v mem nx with
     | some s'=>Ey P Γ ops r s' m K
     | none=>False
    | none=>False
theorem NF{o:Oper}(h:Qo o.op=true)(ρ:Operand->Value)(w:World):(execOp ρ o).run P w = .ok .recover w:=by
 unfold Qo at h;split at h
 ·rename_i c hop;split at h
  ·rename_i hc;simp[execOp,hop,resolve,hc,invoke,builtin]
  ·cases h
 ·cases h
theorem IT(ops:Array Oper):∀(l:List Nat) (s:St) (m:iV) (K:St->iV->Prop),Ey P Γ ops.toList (l.filterMap fun i=>ops[i]?) s m K ->
  ∀(X:Nat->Prop) (ds:List Deferred) (D:Nat->Prop) (ρ:Nat->dG) (a:Act) (w:World) (c₀:Frame) (cs:List Frame) (Q:Exit->Act->List Frame->World->Prop),(∀i,D i->i<B)->SR Γ X (ds,0) ρ (dn D B s.nx) s a w->B<=s.nx->c₀.mode=m.mode ->
   (∀(s':St) (m':iV) (ρ':Nat->dG) (a':Act) (w':World),K s' m'->B<=s'.nx->SR Γ X (ds,0) ρ' (dn D B s'.nx) s' a' w'->Ext D ρ s.mem w ρ' (dn D B s'.nx) s'.mem w'->Q .normal a' ({ c₀ with mode:=m'.mode }::cs) w') ->
   wpOpsS P ops Q l a (c₀::cs) w:=by
 intro l
 induction l with
 | nil=>
  intro s m K h X ds D ρ a w c₀ cs Q hD hs hB hm hQ;have:=hQ s m ρ a w h hB hs (Ext.refl fun i hi=>.inl hi);rw[uG hm] at this;exact this
 | cons i r ih=>
  intro s m K h X ds D ρ a w c₀ cs Q hD hs hB hm hQ;simp only[wpOpsS];cases ho:ops[i]? with
  | none=>
   simp only[aBu,ho] at h;exact ih s m K h X ds D ρ a w c₀ cs Q hD hs hB hm hQ
  | some o=>
   simp only[aBu,ho] at h;simp only[Ey] at h;split at h
   ·exact h.elim
   ·rename_i hw;have hw':=iR hs hw;rw[aA3] at hw';simp only[hw',Z8,if_false];split at h
    ·rename_i s' hst;obtain⟨h1,h2,h3⟩:=g6 hst hs hs.mr vH (fun h=>h) (fun _ _ h=>h);refine ih s' m K h X ds D ρ _ w c₀ cs Q hD (by rw[h3];exact h1) (by omega) hm fun s2 m2 ρ2 a2 w2 k1 k2 k3 k4=>hQ s2 m2 ρ2 a2 w2 k1 k2 k3 (by rw[←h2];exact k4)
    ·exact h.elim
   ·rename_i hw;have hw':=iR hs hw;rw[aA3] at hw';simp only[hw',if_true];split at h
    ·rename_i hrec;rw[NF hrec];split at h
     ·rename_i v m' hv;split at h
      ·rename_i s' hst;have main:∀(x:Value) (c1:Frame),(VR ρ (dn D B s.nx) (OX X ρ s.mem) w v x)->c1={ c₀ with mode:=m'.mode }->wpOpsS P ops Q r (a.put o.dst x) (c1::cs) w:=by
        intro x c1 hx hc1;obtain⟨h1,h2,h3⟩:=g6 hst hs hs.mr hx (fun h=>h) (fun _ _ h=>h);subst hc1;exact ih s' m' K h X ds D ρ _ w { c₀ with mode:=m'.mode } cs Q hD (by rw[h3];exact h1) (by omega) rfl fun s2 m2 ρ2 a2 w2 k1 k2 k3 k4=>hQ s2 m2 ρ2 a2 w2 k1 k2 k3 (by rw[←h2];exact k4)
       cases m with
       | ret=>
        cases hv;simp only[recoverD,hm,iV.mode];exact main _ c₀ .nif (uG hm).symm
       | pan x=>
        simp only[XC] at hv;split at hv
        ·rename_i u hu;cases hv;simp only[recoverD,hm,iV.mode,pe];exact main _ _ (OF hu) rfl
        ·cases hv
       | recd x=>
        cases hv;simp only[recoverD,hm,iV.mode];exact main _ c₀ .nif (uG hm).symm
      ·exact h.elim
     ·exact h.elim
    ·split at h
     ·rename_i v mem nx hstep;split at h
      ·rename_i s' hst;have hnx:s.nx<=nx:=by rcases AR hstep with h'|h'<;>omega
       obtain⟨x,n,w',ρ',e1,e2,m1,v1,mono1,ext1⟩:=oW (P:=P) (D:=dn D B s.nx) (D':=dn D B nx) (fun h'=>aAT _ (wZ hD hB _ h')) (x6 hnx) hs o (fun e=>.inr ⟨hB,by omega⟩) hstep;obtain⟨h1,h2,h3⟩:=g6 hst hs m1 v1 (ext1 _ fun i hi=>hi).mks mono1;have fin:wpOpsS P ops Q r (a.put o.dst x) (c₀::cs) w':=ih s' m K h X ds D ρ' _ w' c₀ cs Q hD (by rw[h3];exact h1) (by rw[h3];exact Yw hB hnx) hm fun s2 m2 ρ2 a2 w2 k1 k2 k3 k4=>hQ s2 m2 ρ2 a2 w2 k1 k2 k3 ((ext1 D fun i hi=>.inl hi).trans (by rw[←h2];exact k4))
       rw[e1];rcases e2 with rfl|⟨rfl,rfl⟩
       ·exact fin
       ·exact fin
      ·exact h.elim
     ·exact h.elim
theorem Gj(L:List Oper):∀(l:List Oper) (k:Nat),(∀j,L[k+j]? = l[j]?)->((List.range' k l.length).filterMap fun i=>L[i]?)=l
 | [],k,h=>rfl
 | o::r,k,h=>by
  have h0:L[k]? = some o:=by simpa using h 0
  rw[ZH,List.range'_succ,aBu,h0];simp only;rw[Gj L r (k+1) fun j=>by have:=h (j+1);simpa[Nat.add_assoc,aBw 1 j] using this]
theorem tT.region{id:Nat}{ops:Array Oper}(h:Ey P Γ ops.toList ops.toList s m fun s' m'=>Q .normal s' m'):tT P Γ B (.region id ops false) s m Q:=by
 refine⟨fun X ds D ρ a w c₀ cs hD hs hB hm=>wpS_region ?_⟩;have e:((List.range ops.size).filterMap fun i=>ops[i]?)=ops.toList:=by
  have:=Gj ops.toList ops.toList 0 (fun j=>by rw[ZD]);rw[List.range_eq_range',←Array.length_toList];simpa using this
 exact IT ops (List.range ops.size) s m _ (by rw[e];exact h) X ds D ρ a w c₀ cs _ hD hs hB hm fun s' m' ρ' a' w' h1 h2 h3 h4=>⟨s',m',ρ',h1,rfl,h2,h3,h4⟩
def KI(P:Program)(Γ:List (Nat × AV))(H:Hk):Code->St->iV->(St->iV->Prop)->Prop
 | .skip,s,m,K=>K s m
 | .seq x y,s,m,K=>KI P Γ H x s m fun s' m'=>KI P Γ H y s' m' K
 | .cond c x y,s,m,K=>match ev Γ s c with
  | some (.bool b)=>match b with
   | true=>KI P Γ H x s m K
   | false=>KI P Γ H y s m K
  | _=>False
 | .region _ ops draw,s,m,K=>match draw with
  | false=>Ey P Γ ops.toList ops.toList s m K
  | true=>False
 | _,_,_,_=>False
theorem LC{H:Hk}:∀(c:Code) (s:St) (m:iV) (K:St->iV->Prop),KI P Γ H c s m K->tT P Γ B c s m fun e s' m'=>match e with
  | .normal=>K s' m'
  | _=>False:=by
 intro c
 induction c with
 | skip=>exact fun s m K h=>.of rfl ⟨fun rd X ds D ρ a w hD hs hB _=>wpIn_skip ⟨s,ρ,h,hB,hs,Ext.refl fun i hi=>.inl hi⟩⟩
 | seq x y ihx ihy=>
  intro s m K h;refine tT.seq ?_;obtain⟨h'⟩:=ihx s m _ h;refine⟨fun X ds D ρ a w c₀ cs hD hs hB hm=>AO (h' X ds D ρ a w c₀ cs hD hs hB hm) ?_⟩;rintro e a' cs' w' ⟨s',m',ρ',hq,rest⟩;refine⟨s',m',ρ', ?_,rest⟩;cases e with
  | normal=>exact ihy s' m' K hq
  | _=>exact(show False from hq).elim
 | cond c x y ihx ihy=>
  intro s m K h;simp only[KI] at h;split at h
  ·rename_i b hc;refine tT.cond hc ?_;cases b with
   | true=>exact ihx s m K h
   | false=>exact ihy s m K h
  ·exact h.elim
 | region id ops draw=>
  intro s m K h;cases draw with
  | false=>exact tT.region h
  | true=>exact(show False from h).elim
 | _=>exact fun s m K h=>(show False from h).elim
def DfR(ρ:Nat->dG)(D:Nat->Prop)(O:Nat->Prop)(w:World)(v:AV)(d:Deferred):Prop:=
 ∃(F:FuncId) (first cap:List AV) (vs:List Value) (a2:Array Value),v = .fn (.func F) first cap/\d.target = .fn (.func F) a2/\d.args.toList++a2.toList=vs/\kQ ρ D O w (first++cap) vs
def HN(P:Program)(Γ:List (Nat × AV))(H:Hk)(rs:List ResultVar)(v:AV)(s:St)(m:iV)(Q:AV->aQ->Nat->Prop)(Qp:Value->aQ->Nat->Prop):Prop:=
 match v with
 | .fn (.func F) first cap=>match P.funcs[F]? with
  | some fn=>match fn.body with
   | some c=>match fn.name == "runtime.NumGoroutine" with
    | false=>match fn.results.toList with
     | []=>KI P Γ H c (enter fn.ntmps (first++cap) s.mem s.nx) m fun s' m'=>match m' with
      | .pan x=>Qp x s'.mem s'.nx
      | _=>match Ci P rs { s with mem:=s'.mem,nx:=s'.nx } with
       | some r=>Q r s'.mem s'.nx
       | none=>False
     | _::_=>False
    | true=>False
   | none=>False
  | none=>False
 | _=>False
theorem AI{H:Hk}{X:Nat->Prop}{D:Nat->Prop}{ρ ρ0:Nat->dG}{a:Act}{w w0:World}{mem0:aQ}{d:Deferred}{v:AV}{fn:Func}{Qr:AV->aQ->Nat->Prop}{Qp:Value->aQ->Nat->Prop}
  (hD:∀i,D i->i<B) (hs:SR Γ X ([d],0) ρ (dn D B s.nx) s a w) (hB:B<=s.nx) (hv:DfR ρ (dn D B s.nx) (OX X ρ s.mem) w v d) (hext:Ext D ρ0 mem0 w0 ρ (dn D B s.nx) s.mem w)
  (hm:m.mode≠.run) (h:HN P Γ H fn.results.toList v s m Qr Qp) :
  Leaves P fn a.tmps (fun e w'=>∃(mem':aQ) (nx':Nat) (ρ':Nat->dG),B<=nx'/\MR Γ X ρ' (dn D B nx') mem' w'/\Ext D ρ0 mem0 w0 ρ' (dn D B nx') mem' w' /\
   ((∃(r:AV) (v:Value),e = .returned v/\Qr r mem' nx'/\VR ρ' (dn D B nx') (OX X ρ' mem') w' r v)∨(∃x:Value,e = .panicked [pe x]/\Qp x mem' nx'))) [d] m.mode w:=by
 obtain⟨F,first,cap,vs,a2,rfl,ht,hvs,hvr⟩:=hv;simp only[HN] at h;split at h<;>first|exact h.elim|skip
 rename_i fd hf;split at h<;>first|exact h.elim|skip
 rename_i c hc;split at h<;>first|exact h.elim|skip
 rename_i hname;split at h<;>first|exact h.elim|skip
 rename_i hres;have hname':¬fd.name = "runtime.NumGoroutine" := by simpa using hname
 refine⟨hm,.func F,a2,F,vs.toArray,ht, ?_, ?_⟩
 ·rw[ht,←hvs];have e:(d.args.toList++a2.toList).toArray=d.args++a2:=by apply aBd;simp
  simp[invoke,callFunc,hf,hc,hname',e]
 ·refine callsD_of_wpS hf hc fun c₀ cs hc0=>?_
  have hwide:∀id,dn (dn D B s.nx) s.nx s.nx id->dn D B s.nx id:=uS hB (Yy _);have hsr:=AT (n:=fd.ntmps) (wZ hD hB) hs.mr hvr (Zd _);refine AO ((LC (B:=s.nx) (H:=H) c _ _ _ h).run X [] (dn D B s.nx) ρ _ w c₀ cs (wZ hD hB) hsr (Yy _) hc0) ?_;rintro e a' cs' w' ⟨s',m',ρ',hq,rfl,hB',hs',hext'⟩;cases e with
  | normal=>
   have hr0:(results fd a'.tmps).run P w' = .ok (.tuple #[]) w':=by
    have:=AD (P:=P) (w:=w') (fn:=fd) (tmps:=a'.tmps) (vs:=[]) (by rw[hres];simp);simpa using this
   have ext2:=hext.trans ((hext'.sub fun i hi=>.inl hi).wide (uS hB hB'));obtain⟨m2,mono2,_⟩:=hs'.mr.widen (uS hB hB');refine⟨hs'.def0.eq,m'.mode,rfl,.tuple #[],hr0, ?_⟩;have hs2:SR Γ X ([],0) ρ' (dn D B s'.nx) { s with mem:=s'.mem,nx:=s'.nx } { tmps:=a.tmps,defers:=[] } w':=
    ⟨m2,C0.start (ds:=([],0)) (Zd _),hs.size,fun i u hi=>mono2 _ _ (hext'.vr (hs.slot i u hi))⟩
   have ret:settle m'.mode = .returning->(match Ci P fn.results.toList { s with mem:=s'.mem,nx:=s'.nx } with
       | some r=>Qr r s'.mem s'.nx
       | none=>False)->Leaves P fn a.tmps (fun e w'=>∃(mem':aQ) (nx':Nat) (ρ':Nat->dG),B<=nx'/\MR Γ X ρ' (dn D B nx') mem' w'/\Ext D ρ0 mem0 w0 ρ' (dn D B nx') mem' w' /\
   ((∃(r:AV) (v:Value),e = .returned v/\Qr r mem' nx'/\VR ρ' (dn D B nx') (OX X ρ' mem') w' r v)∨(∃x:Value,e = .panicked [pe x]/\Qp x mem' nx'))) [] (settle m'.mode) w':=by
    intro hset hq;rw[hset];split at hq
    ·rename_i r hr;obtain⟨x,h1,h2⟩:=yY hs2 hr;exact⟨x,h1,s'.mem,s'.nx,ρ',Yw hB hB',m2,ext2,.inl ⟨r,x,rfl,hq,h2⟩⟩
    ·exact hq.elim
   cases m' with
   | ret=>exact ret rfl hq
   | recd x=>exact ret rfl hq
   | pan x=>exact⟨s'.mem,s'.nx,ρ',Yw hB hB',m2,ext2,.inr ⟨x,rfl,hq⟩⟩
  | _=>exact(show False from hq).elim
end
structure Bd(P:Program)(Γ:List (Nat × AV))(B:Nat)(c:Code)(s:St)(Q:Exit->St->Option AV->Prop):Prop where
 run:∀(X:Nat->Prop) (D:Nat->Prop) (ρ:Nat->dG) (a:Act) (w:World),(∀i,D i->i<B)->SR Γ X ([],0) ρ (dn D B s.nx) s a w->B<=s.nx ->
  c.wp P (fun e a' w'=>∃(s':St) (v:Option AV) (ds:List Deferred) (ρ':Nat->dG),Q e s' v/\B<=s'.nx/\SR Γ X (ds,0) ρ' (dn D B s'.nx) s' a' w'/\Ext D ρ s.mem w ρ' (dn D B s'.nx) s'.mem w' /\
   (match v with
    | none=>ds=[]
    | some v=>∃d,ds=[d]/\DfR ρ' (dn D B s'.nx) (OX X ρ' s'.mem) w' v d)) a w
section
variable {P:Program} {Γ:List (Nat × AV)} {B:Nat} {s:St} {Q:Exit->St->Option AV->Prop}
theorem SR.widen{X:Nat->Prop}{ds:List Deferred × Nat}{ρ:Nat->dG}{D D':Nat->Prop}{a:Act}{w:World}(hs:SR Γ X ds ρ D s a w)(hD:∀i,D i->D' i):SR Γ X ds ρ D' s a w:=by
 obtain⟨m,mono,_⟩:=hs.mr.widen hD;exact⟨m,hs.def0,hs.size,fun i v hi=>mono _ _ (hs.slot i v hi)⟩
theorem Bd.of{c:Code}(hc:iD c=false)(h:fR P Γ B c s fun e s'=>Q e s' none):Bd P Γ B c s Q:=by
 refine⟨fun X D ρ a w hD hs hB=>Go.wp_mono (HZ.1 (h.run none X ([],0) D ρ a w hD hs hB (.no hc))) ?_⟩;rintro e a' w' ⟨s',ρ',hq,hB',hs',hext⟩;exact⟨s',none,[],ρ',hq,hB',hs',hext,rfl⟩
theorem DfR.vr{X:Nat->Prop}{D D':Nat->Prop}{ρ ρ':Nat->dG}{mem mem':aQ}{w w':World}{v:AV}{d:Deferred}(h:Ext D ρ mem w ρ' D' mem' w')(hv:DfR ρ D (OX X ρ mem) w v d):DfR ρ' D' (OX X ρ' mem') w' v d:=by
 obtain⟨F,first,cap,vs,a2,h1,h2,h3,h4⟩:=hv;exact⟨F,first,cap,vs,a2,h1,h2,h3,h4.1,fun j c x hc hx=>h.vr (h4.2 j c x hc hx)⟩
def Wx(P:Program)(Γ:List (Nat × AV))(B:Nat)(y:Code)(Q:Exit->St->Option AV->Prop)(e:Exit)(s:St)(v:Option AV):Prop:=
 match e with
 | .normal=>match v with
  | none=>Bd P Γ B y s Q
  | some v=>iD y=false/\fR P Γ s.nx y s fun e s'=>Q e s' (some v)
 | e=>Q e s v
theorem Bd.seq{x y:Code}(h:Bd P Γ B x s (Wx P Γ B y Q)):Bd P Γ B (.seq x y) s Q:=by
 refine⟨fun X D ρ a w hD hs hB=>wp_seq (Go.wp_mono (h.run X D ρ a w hD hs hB) ?_)⟩;rintro e a' w' ⟨s',v,ds,ρ',hq,hB',hs',hext,hv⟩;cases e with
 | normal=>
  cases v with
  | none=>
   have hv:ds=[]:=hv;subst hv;refine Go.wp_mono ((show Bd P Γ B y s' Q from hq).run X D ρ' a' w' hD hs' hB') ?_;rintro e a2 w2 ⟨s2,v2,ds2,ρ2,h1,h2,h3,h4,h5⟩;exact⟨s2,v2,ds2,ρ2,h1,h2,h3,hext.trans h4,h5⟩
  | some v=>
   obtain⟨d,rfl,hd⟩:=hv;have key:=(show iD y=false/\fR P Γ s'.nx y s' (fun e s'=>Q e s' (some v)) from hq)
   refine Go.wp_mono (HZ.1 (key.2.run none X ([d],0) (dn D B s'.nx) ρ' a' w' (wZ hD hB') (hs'.widen fun i hi=>.inl hi) (Yy _) (.no key.1))) ?_;rintro e a2 w2 ⟨s2,ρ2,h1,h2,h3,h4⟩;have hd2:=hd.vr h4;obtain⟨_,mono2,_⟩:=h3.mr.widen (uS hB' h2);obtain⟨F,first,cap,vs,a2,g1,g2,g3,g4⟩:=hd2;exact⟨s2,some v,[d],ρ2,h1,Yw hB' h2,h3.widen (uS hB' h2),hext.trans ((h4.sub fun i hi=>.inl hi).wide (uS hB' h2)),d,rfl,F,first,cap,vs,a2,g1,g2,g3,g4.1,fun j c x hc hx=>mono2 _ _ (g4.2 j c x hc hx)⟩
 | exit i=>exact⟨s',v,ds,ρ',hq,hB',hs',hext,hv⟩
 | goto l=>exact⟨s',v,ds,ρ',hq,hB',hs',hext,hv⟩
 | ret=>exact⟨s',v,ds,ρ',hq,hB',hs',hext,hv⟩
 | panic c=>exact⟨s',v,ds,ρ',hq,hB',hs',hext,hv⟩
 | outgrown=>exact⟨s',v,ds,ρ',hq,hB',hs',hext,hv⟩
def IU(P:Program)(Γ:List (Nat × AV))(ops:List Oper):List Oper->St->(St->AV->Prop)->Prop
 | [],_,_=>False
 | o::r,s,K=>match nP ops s o.guard with
  | some true=>match o.op with
   | .defer c=>match r with
    | []=>match c.args.toList with
     | []=>match c.callee with
      | .value f=>match ev Γ s f with
       | some (.fn (.func F) first cap)=>match fH s o.dst (.tup []) s.mem s.nx with
        | some s'=>K s' (.fn (.func F) first cap)
        | none=>False
       | _=>False
      | _=>False
     | _::_=>False
    | _::_=>False
   | op=>match dA P Γ s op with
    | some (v,mem,nx)=>match fH s o.dst v mem nx with
     | some s'=>IU P Γ ops r s' K
     | none=>False
    | none=>False
  | _=>False
theorem CM(ops:List Oper):∀(l:List Oper) (s:St) (K:St->AV->Prop),IU P Γ ops l s K ->
  ∀(X:Nat->Prop) (D:Nat->Prop) (ρ:Nat->dG) (a:Act) (w:World) (Q:Exit->Act->World->Prop),(∀i,D i->i<B)->SR Γ X ([],0) ρ (dn D B s.nx) s a w->B<=s.nx ->
   (∀(s':St) (v:AV) (d:Deferred) (ρ':Nat->dG) (a':Act) (w':World),K s' v->B<=s'.nx->SR Γ X ([d],0) ρ' (dn D B s'.nx) s' a' w'->Ext D ρ s.mem w ρ' (dn D B s'.nx) s'.mem w'->DfR ρ' (dn D B s'.nx) (OX X ρ' s'.mem) w' v d->Q .normal a' w')->wpList P ops.toArray Q l a w
 | [],s,K,h,X,D,ρ,a,w,Q,hD,hs,hB,hQ=>h.elim
 | o::r,s,K,h,X,D,ρ,a,w,Q,hD,hs,hB,hQ=>by
  simp only[IU] at h;refine wpList_step fun K' hK'=>?_
  split at h<;>first|exact h.elim|skip
  rename_i hw;rw[iR hs hw];simp only[if_true];split at h
  ·rename_i c hop;split at h<;>first|exact h.elim|skip
   split at h<;>first|exact h.elim|skip
   rename_i hargs;split at h<;>first|exact h.elim|skip
   rename_i f hc;split at h<;>first|exact h.elim|skip
   rename_i F first cap hf
   split at h<;>first|exact h.elim|skip
   rename_i s' hst;have hv:=aY hs hf;generalize he:a.eval f=fv at hv;cases hv with
   | fn _ _ _ a1 a2 l1 l2 r1 r2=>
    have hargs':c.args = #[]:=by apply aBd;simpa using hargs
    have e1:(execOp a.eval o).run P w = .ok (.defer { target:=.fn (.func F) a2,args:=a1 }) w:=by
     simp[execOp,hop,resolve,hc,he,Deferred.ofValue,hargs']
    unfold Oper.wp;rw[e1];have hs':SR Γ X ([{ target:=.fn (.func F) a2,args:=a1 }],0) ρ (dn D B s.nx) s { a with defers:={ target:=.fn (.func F) a2,args:=a1 }::a.defers } w:=
     ⟨hs.mr,by rw[hs.def0.eq];exact C0.start (ds:=([_],0)) (Zd _),hs.size,hs.slot⟩
    obtain⟨h1,h2,h3⟩:=g6 hst hs' hs'.mr vH (fun h=>h) (fun _ _ h=>h);refine hK' _ _ (wpList_nil (hQ s' _ _ ρ _ w h (by rw[h3];exact hB) (by rw[h3];exact h1) (by rw[h2,h3];exact Ext.refl fun i hi=>.inl hi) ?_));refine⟨F,first,cap,a1.toList++a2.toList,a2,rfl,rfl,rfl, ?_⟩;rw[h2,h3];exact kQ.append ⟨by simpa using l1,fun j c x h1 h2=>r1 j c x h1 (by simpa using h2)⟩ ⟨by simpa using l2,fun j c x h1 h2=>r2 j c x h1 (by simpa using h2)⟩
  ·rename_i hnd;split at h<;>first|exact h.elim|skip
   rename_i v mem nx hstep;split at h<;>first|exact h.elim|skip
   rename_i s' hst;have hnx:s.nx<=nx:=by rcases AR hstep with h'|h'<;>omega
   obtain⟨x,n,w',ρ',e1,e2,m1,v1,mono1,ext1⟩:=oW (P:=P) (D:=dn D B s.nx) (D':=dn D B nx) (fun h'=>aAT _ (wZ hD hB _ h')) (x6 hnx) hs o (fun e=>.inr ⟨hB,by omega⟩) hstep;obtain⟨h1,h2,h3⟩:=g6 hst hs m1 v1 (ext1 _ fun i hi=>hi).mks mono1;have fin:K' (a.put o.dst x) w':=hK' _ _ (CM ops r s' K h X D ρ' _ w' Q hD (by rw[h3];exact h1) (by rw[h3];exact Yw hB hnx) fun s2 v2 d2 ρ2 a2 w2 k1 k2 k3 k4 k5=>hQ s2 v2 d2 ρ2 a2 w2 k1 k2 k3 ((ext1 D fun i hi=>.inl hi).trans (by rw[←h2];exact k4)) k5);unfold Oper.wp;rw[e1];rcases e2 with rfl|⟨rfl,rfl⟩
   ·exact fin
   ·exact fin
theorem Bd.region{id:Nat}{ops:Array Oper}(h:IU P Γ ops.toList ops.toList s fun s' v=>Q .normal s' (some v)):Bd P Γ B (.region id ops false) s Q:=by
 refine⟨fun X D ρ a w hD hs hB=>wp_region_list ?_⟩;have:=CM ops.toList ops.toList s _ h X D ρ a w (fun e a' w'=>∃(s':St) (v:Option AV) (ds:List Deferred) (ρ':Nat->dG),Q e s' v/\B<=s'.nx/\SR Γ X (ds,0) ρ' (dn D B s'.nx) s' a' w'/\Ext D ρ s.mem w ρ' (dn D B s'.nx) s'.mem w' /\
   (match v with
    | none=>ds=[]
    | some v=>∃d,ds=[d]/\DfR ρ' (dn D B s'.nx) (OX X ρ' s'.mem) w' v d)) hD hs hB
  (fun s' v d ρ' a' w' h1 h2 h3 h4 h5=>⟨s',some v,[d],ρ',h1,h2,h3,h4,d,rfl,h5⟩)
 simpa using this
def Ru(P:Program)(Γ:List (Nat × AV))(H:Hk)(rs:List ResultVar)(Q:AV->aQ->Nat->Prop)(Qp:Value->aQ->Nat->Prop)(s:St)(v:Option AV):Prop:=
 match v with
 | none=>match Ci P rs s with
  | some r=>Q r s.mem s.nx
  | none=>False
 | some v=>HN P Γ H rs v s .ret Q Qp
def YG(P:Program)(Γ:List (Nat × AV))(H:Hk)(rs:List ResultVar)(Q:AV->aQ->Nat->Prop)(Qp:Value->aQ->Nat->Prop)(x:Value)(s:St)(v:Option AV):Prop:=
 match v with
 | none=>Qp x s.mem s.nx
 | some v=>HN P Γ H rs v s (.pan x) Q Qp
def Lh(P:Program)(Γ:List (Nat × AV))(H:Hk)(rs:List ResultVar)(Q:AV->aQ->Nat->Prop)(Qp:Value->aQ->Nat->Prop):Exit->St->Option AV->Prop:=fun e s v=>
 match e with
 | .normal=>Ru P Γ H rs Q Qp s v
 | .ret=>Ru P Γ H rs Q Qp s v
 | .panic [⟨x,false,false⟩]=>YG P Γ H rs Q Qp x s v
 | _=>False
theorem uP{H:Hk}{F:FuncId}{fn:Func}{c:Code}{args:List AV}{mem:aQ}{nx:Nat}{Q:AV->aQ->Nat->Prop}{Qp:Value->aQ->Nat->Prop}(hf:P.funcs[F]? = some fn)(hb:fn.body=some c)
  (h:Bd P Γ nx c (enter fn.ntmps args mem nx) (Lh P Γ H fn.results.toList Q Qp)) (hF:Nat.beq F YF=false:=by rfl):gC P Γ F args mem nx Q Qp:=by
 refine⟨fun X D ρ w vs hD hm hv=>.of hF (calls_of_wp_defers hf hb ?_)⟩;refine Go.wp_mono (h.run X D ρ _ w hD (AT hD hm hv (Zd _)) (Yy _)) ?_;rintro e a' w' ⟨s',v,ds,ρ',hq,hB',hs',hext,hv⟩;have ret:Ru P Γ H fn.results.toList Q Qp s' v->Leaves P fn a'.tmps (fun e w'=>∃(mem':aQ) (nx':Nat) (ρ':Nat->dG),nx<=nx'/\MR Γ X ρ' (dn D nx nx') mem' w'/\Ext D ρ mem w ρ' (dn D nx nx') mem' w' /\
   ((∃(r:AV) (v:Value),e = .returned v/\Q r mem' nx'/\VR ρ' (dn D nx nx') (OX X ρ' mem') w' r v)∨(∃x:Value,e = .panicked [pe x]/\Qp x mem' nx'))) a'.defers .returning w':=by
  intro hq;cases v with
  | none=>
   have hv:ds=[]:=hv;subst hv;rw[hs'.def0.eq];simp only[Ru] at hq;split at hq
   ·rename_i r hr;obtain⟨x,h1,h2⟩:=yY hs' hr;exact⟨x,h1,s'.mem,s'.nx,ρ',hB',hs'.mr,hext,.inl ⟨r,x,rfl,hq,h2⟩⟩
   ·exact hq.elim
  | some v=>
   obtain⟨d,rfl,hd⟩:=hv;rw[hs'.def0.eq];exact AI (B:=nx) (m:=.ret) hD hs' hB' hd hext (by simp[iV.mode]) hq
 cases e with
 | normal=>exact ret hq
 | ret=>exact ret hq
 | panic ch=>
  unfold Lh at hq;split at hq
  ·rename_i e;cases e
  ·rename_i e;cases e
  ·rename_i x e;cases e
   show Leaves P fn a'.tmps _ a'.defers (.panicking [pe x]) w'
   cases v with
   | none=>
    have hv:ds=[]:=hv;subst hv;rw[hs'.def0.eq];exact⟨s'.mem,s'.nx,ρ',hB',hs'.mr,hext,.inr ⟨x,rfl,hq⟩⟩
   | some v=>
    obtain⟨d,rfl,hd⟩:=hv;rw[hs'.def0.eq];exact AI (B:=nx) (m:=.pan x) hD hs' hB' hd hext (by simp[iV.mode]) hq
  ·exact hq.elim
 | _=>exact(show False from hq).elim
end
end Go.Ax
namespace Go.Ax
open Go
def RW(F:Nat):List Nat->Bool
 | []=>false
 | G::r=>match Nat.beq G F with
  | true=>true
  | false=>RW F r
def Tt:List Oper->Bool
 | []=>false
 | o::r=>match o.op with
  | .defer _=>true
  | _=>Tt r
def JZ(cl:Bool)(P:Program)(Γ:List (Nat × AV))(H:Hk):Code->St->(Exit->St->Option AV->Prop)->Prop
 | .seq x y,s,Q=>JZ cl P Γ H x s fun e s' v=>match e with
  | .normal=>match v with
   | none=>JZ cl P Γ H y s' Q
   | some v=>match iD y with
    | false=>BM cl P Γ H y s' fun e s''=>Q e s'' (some v)
    | true=>False
  | e=>Q e s' v
 | .region id ops draw,s,Q=>match Tt ops.toList with
  | true=>match draw with
   | false=>IU P Γ ops.toList ops.toList s fun s' v=>Q .normal s' (some v)
   | true=>False
  | false=>BM cl P Γ H (.region id ops draw) s fun e s'=>Q e s' none
 | c,s,Q=>match iD c with
  | false=>BM cl P Γ H c s fun e s'=>Q e s' none
  | true=>False
theorem D4{cl:Bool}{P:Program}{Γ:List (Nat × AV)}{H:Hk}(hH:∀B,AA P Γ B H)(B:Nat):∀(c:Code) (s:St) (Q:Exit->St->Option AV->Prop),JZ cl P Γ H c s Q->Bd P Γ B c s Q:=by
 intro c
 induction c with
 | seq x y ihx ihy=>
  intro s Q h;simp only[JZ] at h;refine Bd.seq ?_;obtain⟨h'⟩:=ihx s _ h;refine⟨fun X D ρ a w hD hs hB=>Go.wp_mono (h' X D ρ a w hD hs hB) ?_⟩;rintro e a' w' ⟨s',v,ds,ρ',hq,rest⟩;refine⟨s',v,ds,ρ', ?_,rest⟩;cases e with
  | normal=>
   cases v with
   | none=>exact ihy s' Q hq
   | some v=>
    simp only at hq;split at hq
    ·rename_i hr;exact⟨hr,eB (hH s'.nx) y s' _ hq⟩
    ·exact hq.elim
  | exit i=>exact hq
  | goto l=>exact hq
  | ret=>exact hq
  | panic c=>exact hq
  | outgrown=>exact hq
 | region id ops draw=>
  intro s Q h;simp only[JZ] at h;split at h
  ·split at h
   ·exact Bd.region h
   ·exact h.elim
  ·exact .of rfl (eB (hH B) _ _ _ h)
 | _=>
  intro s Q h;simp only[JZ] at h;split at h
  ·rename_i hr;exact .of hr (eB (hH B) _ _ _ h)
  ·exact h.elim
def KE(P:Program)(Γ:List (Nat × AV))(H:Hk)(args:List AV)(mem:aQ)(nx:Nat)(K:AV->aQ->Nat->Prop):Prop:=
 match args with
 | .yld id::rest=>opt (lk mem id) fun b=>match b with
  | .loop sl nt ps ca cb st pd=>match iD ca with
   | false=>match iD cb with
    | false=>opt (AP nt ps.toList rest sl) fun sl'=>BM true P Γ H ca ⟨sl',mem,nx,nt⟩ fun e s1=>match e with
     | .normal=>Fg s1 fun sl1 m1 n1 t1=>opt (lk m1 id) fun b1=>match b1 with
      | .loop sl nt ps ca cb' .ready pd=>Ob m1 id (.loop sl nt ps ca cb' .busy pd) fun m2=>BM true P Γ H cb ⟨sl1,m2,n1,t1⟩ fun e s3=>Fg s3 fun _ m3 n3 _=>opt (lk m3 id) fun b3=>match b3 with
       | .loop sl nt ps ca cb _ _=>match e with
        | .normal=>Ob m3 id (.loop sl nt ps ca cb .ready none) fun m=>K (.bool true) m n3
        | .ret=>Ob m3 id (.loop sl nt ps ca cb .done (some .ret)) fun m=>K (.bool false) m n3
        | .exit i=>Ob m3 id (.loop sl nt ps ca cb .done (some (.exit i))) fun m=>K (.bool false) m n3
        | _=>False
       | _=>False
      | _=>False
     | _=>False
    | true=>False
   | true=>False
  | _=>False
 | _=>False
theorem Gz{P:Program}{Γ:List (Nat × AV)}{H:Hk}(hH:∀B,AA P Γ B H){args:List AV}{mem:aQ}{nx:Nat}{K:AV->aQ->Nat->Prop}{Kp:Value->aQ->Nat->Prop}(h:KE P Γ H args mem nx K):gC P Γ YF args mem nx K Kp:=by
 unfold KE at h;split at h<;>first|exact h.elim|skip
 obtain⟨b,h1,h⟩:=cM.1 h;split at h<;>first|exact h.elim|skip
 split at h<;>first|exact h.elim|skip
 rename_i ha;split at h<;>first|exact h.elim|skip
 rename_i hb;obtain⟨sl',h2,h⟩:=cM.1 h;refine gC.round h1 h2 ha hb ((eB (hH nx) _ _ _ h).mono fun e s1 h=>?_);unfold TR;split at h<;>first|exact h.elim|skip
 obtain⟨b1,h3,h⟩:=cM.1 (pF.1 h);simp only[h3];split at h<;>first|exact h.elim|skip
 refine(eB (hH nx) _ _ _ (nH.1 h)).mono fun e s3 h=>?_
 unfold VI;obtain⟨b3,h4,h⟩:=cM.1 (pF.1 h);simp only[h4];split at h<;>first|exact h.elim|skip
 split at h
 ·exact nH.1 h
 ·exact nH.1 h
 ·exact nH.1 h
 ·exact h.elim
def uN(P:Program)(Γ:List (Nat × AV))(dl:List Nat):Nat->Hk
 | 0=>{ call:=fun _ _ _ _ _ _=>False,loop:=fun _ _ _=>False }
 | n+1=>{
   call:=fun F args mem nx K Kp=>match Nat.beq F YF with
    | false=>match P.funcs[F]? with
     | some fn=>match fn.body with
      | some c=>match RW F dl with
       | false=>wI fn.ntmps args mem nx fun s=>BM true P Γ (uN P Γ dl n) c s (IN P fn.results.toList K Kp)
       | true=>wI fn.ntmps args mem nx fun s=>JZ true P Γ (uN P Γ dl n) c s (Lh P Γ (uN P Γ dl n) fn.results.toList K Kp)
      | none=>False
     | none=>False
    | true=>KE P Γ (uN P Γ dl n) args mem nx K
   loop:=fun c s Q=>BM true P Γ (uN P Γ dl n) c s fun e s'=>match e with
    | .normal=>(uN P Γ dl n).loop c s' Q
    | e=>Q e s' }
theorem Ij(P:Program)(Γ:List (Nat × AV))(dl:List Nat):∀n B,AA P Γ B (uN P Γ dl n) /\
  ∀c s Q,(uN P Γ dl n).loop c s Q->∀rd X ds D ρ a w,(∀i,D i->i<B)->SR Γ X ds ρ (dn D B s.nx) s a w->B<=s.nx->BQ rd ds c ->
   Code.roundsIn (FW rd) 0 P c (fun e a' w'=>∃(s':St) (ρ':Nat->dG),Q e s'/\B<=s'.nx/\SR Γ X ds ρ' (dn D B s'.nx) s' a' w'/\Ext D ρ s.mem w ρ' (dn D B s'.nx) s'.mem w') n a w:=by
 intro n
 induction n with
 | zero=>exact fun B=>⟨⟨fun _ _ _ _ _ _ h=>h.elim,fun _ _ _ h=>h.elim⟩,fun _ _ _ h=>h.elim⟩
 | succ n ih=>
  intro B;have hr:∀c s Q,(uN P Γ dl (n+1)).loop c s Q->∀rd X ds D ρ a w,(∀i,D i->i<B)->SR Γ X ds ρ (dn D B s.nx) s a w->B<=s.nx->BQ rd ds c ->
    Code.roundsIn (FW rd) 0 P c (fun e a' w'=>∃(s':St) (ρ':Nat->dG),Q e s'/\B<=s'.nx/\SR Γ X ds ρ' (dn D B s'.nx) s' a' w'/\Ext D ρ s.mem w ρ' (dn D B s'.nx) s'.mem w') (n+1) a w:=by
   intro c s Q h rd X ds D ρ a w hD hs hB hno;have h':=(eB (ih B).1 c s _ h).run rd X ds D ρ a w hD hs hB hno;rw[roundsIn_succ];refine wpIn_mono h' ?_;rintro e a1 w1 ⟨s1,ρ1,hq,hB1,hs1,hext⟩;cases e with
   | normal=>
    have key:=(ih B).2 c s1 Q hq rd X ds D ρ1 a1 w1 hD hs1 hB1 hno;refine vL n a1 w1 _ _ ?_ key;rintro e a2 w2 ⟨s2,ρ2,h1,h2,h3,h4⟩;exact⟨s2,ρ2,h1,h2,h3,hext.trans h4⟩
   | exit id=>exact⟨s1,ρ1,hq,hB1,hs1,hext⟩
   | goto l=>exact⟨s1,ρ1,hq,hB1,hs1,hext⟩
   | ret=>exact⟨s1,ρ1,hq,hB1,hs1,hext⟩
   | panic ch=>exact⟨s1,ρ1,hq,hB1,hs1,hext⟩
   | outgrown=>exact⟨s1,ρ1,hq,hB1,hs1,hext⟩
  refine⟨⟨fun F args mem nx K Kp h=>?_,fun c s Q h=>⟨fun rd X ds D ρ a w hD hs hB hno=>wpIn_loop_rounds (n+1) (hr c s Q h rd X ds D ρ a w hD hs hB hno.loop)⟩⟩,hr⟩;simp only[uN] at h;split at h
  ·rename_i hF;split at h
   ·rename_i fn hf;split at h
    ·rename_i c hc;split at h
     ·exact qU hf hc ((eB (ih nx).1 _ _ _ (l6 h)).mono fun _ _ h=>HJ h) hF
     ·exact uP hf hc (D4 (fun B=>(ih B).1) nx _ _ _ (l6 h)) hF
    ·exact h.elim
   ·exact h.elim
  ·rename_i hF;have e:=Nat.eq_of_beq_eq_true hF;subst e;exact Gz (fun B=>(ih B).1) h
theorem FT{P:Program}{Γ:List (Nat × AV)}{F:FuncId}{args:List AV}{mem:aQ}{nx:Nat}{Q:AV->aQ->Nat->Prop}(dl:List Nat)(n:Nat)(h:(uN P Γ dl n).call F args mem nx Q fun _ _ _=>False):aF P Γ F args mem nx Q:=
 ((Ij P Γ dl n nx).1.call F args mem nx Q _ h).toC fun _ _ _ h=>h
end Go.Ax
namespace Go.Ax
open Go
section
variable {P:Program} {Γ:List (Nat × AV)} {B:Nat}
structure vD(P:Program)(Γ:List (Nat × AV))(B:Nat)(ops l:List Oper)(s:St)(K:St->Prop)(Kp:Value->St->Prop):Prop where
 run:yD P Γ (Jb P Γ B) ops l s K Kp
def NI(P:Program)(Γ:List (Nat × AV))(B:Nat)(ops:List Oper)(K:St->Prop)(Kp:Value->St->Prop)(next:List Oper->St->Prop)(l:List Oper)(s:St):Prop:=
 match l with
 | []=>K s
 | o::r=>Fg s fun sl mem nx nt=>wY ops sl o.guard
   (I1 false P Γ (Jb P Γ B) sl mem nx o.op (fun v mem nx=>o9 s o.dst v mem nx fun s'=>next r s') fun x mem nx=>Kp x ⟨sl,mem,nx,nt⟩)
   (o9 s o.dst (.tup []) mem nx fun s'=>next r s')
theorem At{ops:List Oper}{K:St->Prop}{Kp:Value->St->Prop}{next:List Oper->St->Prop}(hn:∀r s,next r s->vD P Γ B ops r s K Kp){l:List Oper}{s:St}(h:NI P Γ B ops K Kp next l s):vD P Γ B ops l s K Kp:=by
 refine⟨?_⟩;cases l with
 | nil=>exact h
 | cons o r=>
  have h:wY ops s.sl o.guard (I1 false P Γ (Jb P Γ B) s.sl s.mem s.nx o.op (fun v mem nx=>o9 s o.dst v mem nx fun s'=>next r s') fun x mem nx=>Kp x ⟨s.sl,mem,nx,s.nt⟩) (o9 s o.dst (.tup []) s.mem s.nx fun s'=>next r s'):=h;simp only[yD];rcases x7 h with⟨h1,h⟩|⟨h1,h⟩
  ·simp only[h1];rcases Lq h with⟨v,m,n,h2,h⟩|⟨h2,F,l,h3,h⟩|⟨h2,h3,y,h4,h⟩
   ·obtain⟨s',h4,h⟩:=f9 h;simp only[h2,h4];exact(hn _ _ h).run
   ·simp only[h2,h3];refine(show gC P Γ F l s.mem s.nx _ _ from h).mono (fun v m n h=>?_) fun x m n h=>h
    obtain⟨s',h4,h⟩:=f9 h;simp only[h4];exact(hn _ _ h).run
   ·simp only[h2,h3,h4];exact h
  ·obtain⟨s',h4,h⟩:=f9 h;simp only[h1,h4];exact(hn _ _ h).run
def XF(P:Program)(Γ:List (Nat × AV))(B:Nat)(ops:List Oper)(K:St->Prop)(Kp:Value->St->Prop)(l:List Oper)(s:St):Prop:=vD P Γ B ops l s K Kp
theorem RZ{ops:List Oper}{K:St->Prop}{Kp:Value->St->Prop}(l:List Oper)(s:St)(h:XF P Γ B ops K Kp l s):vD P Γ B ops l s K Kp:=h
def WE(P:Program)(Γ:List (Nat × AV))(B:Nat)(ops:List Oper)(K:St->Prop)(Kp:Value->St->Prop)(l:List Oper)(s:St):Prop:=NI P Γ B ops K Kp (XF P Γ B ops K Kp) l s
theorem TS{ops:List Oper}{K:St->Prop}{Kp:Value->St->Prop}(l:List Oper)(s:St)(h:WE P Γ B ops K Kp l s):vD P Γ B ops l s K Kp:=At RZ h
def Wk(P:Program)(Γ:List (Nat × AV))(B:Nat)(ops:List Oper)(K:St->Prop)(Kp:Value->St->Prop)(l:List Oper)(s:St):Prop:=NI P Γ B ops K Kp (WE P Γ B ops K Kp) l s
theorem Sb{ops:List Oper}{K:St->Prop}{Kp:Value->St->Prop}(l:List Oper)(s:St)(h:Wk P Γ B ops K Kp l s):vD P Γ B ops l s K Kp:=At TS h
def XB(P:Program)(Γ:List (Nat × AV))(B:Nat)(ops:List Oper)(K:St->Prop)(Kp:Value->St->Prop)(l:List Oper)(s:St):Prop:=NI P Γ B ops K Kp (Wk P Γ B ops K Kp) l s
theorem RX{ops:List Oper}{K:St->Prop}{Kp:Value->St->Prop}(l:List Oper)(s:St)(h:XB P Γ B ops K Kp l s):vD P Γ B ops l s K Kp:=At Sb h
def WZ(P:Program)(Γ:List (Nat × AV))(B:Nat)(ops:List Oper)(K:St->Prop)(Kp:Value->St->Prop)(l:List Oper)(s:St):Prop:=NI P Γ B ops K Kp (XB P Γ B ops K Kp) l s
theorem R8{ops:List Oper}{K:St->Prop}{Kp:Value->St->Prop}(l:List Oper)(s:St)(h:WZ P Γ B ops K Kp l s):vD P Γ B ops l s K Kp:=At RX h
def XL(P:Program)(Γ:List (Nat × AV))(B:Nat)(ops:List Oper)(K:St->Prop)(Kp:Value->St->Prop)(l:List Oper)(s:St):Prop:=NI P Γ B ops K Kp (WZ P Γ B ops K Kp) l s
theorem Sm{ops:List Oper}{K:St->Prop}{Kp:Value->St->Prop}(l:List Oper)(s:St)(h:XL P Γ B ops K Kp l s):vD P Γ B ops l s K Kp:=At R8 h
theorem vD.many{ops l:List Oper}{s:St}{K:St->Prop}{Kp:Value->St->Prop}(h:XL P Γ B ops K Kp l s):vD P Γ B ops l s K Kp:=Sm l s h
structure Yd(P:Program)(Γ:List (Nat × AV))(B:Nat)(ops:List Oper)(tr:List (List Nat))(base:Nat)(K:St->Prop)(Kp:Value->aQ->Nat->Prop)(l:List Nat)(recs:List C9)(s:St):Prop where
 run:rH P Γ (Jb P Γ B) ops tr base K Kp l recs s
end
end Go.Ax
namespace Go.Ax
open Go
theorem aT.frz{P:Program}{Γ:List (Nat × AV)}{F:FuncId}{args asz:List AV}{r:AV}{mem:aQ}{nx:Nat}{K:AV->aQ->Nat->Prop}(h:aT P Γ F asz r)(ids:List Nat)(hΓ:∀p∈Γ,NN p.2)(hargs:iB (jM ids mem) [] args asz)(hr:NN r)(hk:K r (iS ids mem) nx) :
  aF P Γ F args mem nx K:=by
 refine⟨fun X D ρ w vs hD hm hv=>?_⟩;refine(aF.use (K:=K) (nx:=nx) hΓ h [] (m1:=jM ids mem) (rest:=iS ids mem) ⟨fun p hp'=>(fT.1 hp').1,fun p hp'=>(dZ.1 hp').1,fun p hp'=>?_,fun p h1 q h2=>?_, ?_⟩ ?_ hargs (fun p hp=>by cases hp) (by simp) (fun i j k h=>by simp[lk] at h) (fun id i hl=>by simp[lk] at hl) ?_).run X D ρ w vs hD hm hv
 ·cases hi:B8 p.1 ids with
  | true=>left;exact fT.2 ⟨hp',hi⟩
  | false=>right;exact dZ.2 ⟨hp',hi⟩
 ·have a:=(fT.1 h1).2;have b:=(dZ.1 h2).2;intro e;rw[e,b] at a;cases a
 ·exact hm.nod.sublist ((pV mem).map _)
 ·exact hm.nod.sublist ((pZ mem).map _)
 ·rintro r' m n ⟨rfl,rfl,rfl⟩ _;exact⟨[],r',[],nx,Yy _,.same r' hr,(fun p hp=>by cases hp),by simp,(fun i j k h=>by simp[lk] at h),(fun i id hl=>by simp[lk] at hl),(fun p hp=>by cases hp),hk⟩
theorem P5{mem:aQ}{id len:Nat}{t:TypeId}{sz:Nat}{xs ys:List AV}(h1:lk mem id=some (.row t sz xs))(e:len=xs.length)(h:xs=ys)(h5:kI ys):Cv mem [] (.sl id 0 len) (.il sz ys):=by
 subst e h;exact Cv.fzR h1 rfl (.same h5) rfl
theorem Ry{l:List Int}{k:Nat}(h:k<l.length):(bH l)[(k:Int).toNat]? = some (.int .i64 l[k]):=by simp[bH,Yj h]
end Go.Ax
