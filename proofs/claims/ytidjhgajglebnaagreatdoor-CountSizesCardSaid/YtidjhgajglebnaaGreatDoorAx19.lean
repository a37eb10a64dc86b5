/- A part of the proof. -/
import Derived.Test.YtidjhgajglebnaaGreatDoorAx18
set_option linter.unusedSectionVars false
set_option linter.unusedVariables false
set_option linter.unusedSimpArgs false
set_option maxRecDepth 1000000
set_option maxHeartbeats 16000000
namespace Go.Proofs.YtidjhgajglebnaaGreatDoor
open Go Go.Ax Go.Proofs Tryz
variable{J:List (Nat × Nat)}{A:List Nd}{i j id:Nat}{mem:aP}{L:List Key}
theorem C0(a b:Int):NN (.agg [.int .i64 a,.int .i64 b]):=.agg' (.cons nn (.cons nn .nil))
theorem X8(a b c d:Nat):aT prog [] 123 [.agg [.int .i64 a,.int .i64 b],.agg [.int .i64 c,.int .i64 d]] (.agg [.int .i64 ((min a c:Nat):Int),.int .i64 ((max b d:Nat):Int)]):=by
 refine aD bE func123 rfl ?_;refine Rt ?_;have e1:(if ((c:Nat):Int)<((a:Nat):Int) then((c:Nat):Int) else((a:Nat):Int))=((min a c:Nat):Int):=by split<;>omega
 have e2:(if ((d:Nat):Int)>((b:Nat):Int) then((d:Nat):Int) else((b:Nat):Int))=((max b d:Nat):Int):=by split<;>omega
 rw[e1,e2];exact aA (C0 _ _) ⟨rfl,rfl,rfl⟩
theorem Xx(a b c d:Nat)(ha:a<=100000)(hb:b<=100000)(hc:c<=100000)(hd:d<=100000):aT prog [] 124 [.agg [.int .i64 a,.int .i64 b],.agg [.int .i64 c,.int .i64 d]] (.agg [.int .i64 ((a+c:Nat):Int),.int .i64 ((b+d:Nat):Int)]):=by
 have w1:IntKind.i64.wrap (((a:Nat):Int)+((c:Nat):Int))=((a+c:Nat):Int):=by rw[aV oq];simp
 have w2:IntKind.i64.wrap (((b:Nat):Int)+((d:Nat):Int))=((b+d:Nat):Int):=by rw[aV oq];simp
 refine aD bE func124 rfl ?_;refine Rt ?_;rw[w1,w2];exact aA (C0 _ _) ⟨rfl,rfl,rfl⟩
theorem SV(p:AV)(c:Int):aT prog [] 125 [p,.int .i64 c] (.agg [.int .i64 1,.int .i64 1]):=by
 refine aD bE func125 rfl ?_;refine Rt ?_;exact aA (C0 _ _) ⟨rfl,rfl,rfl⟩
theorem Xj(p:AV):aT prog [] 126 [p] (.agg [.int .i64 1,.int .i64 1]):=by
 refine aD bE func126 rfl ?_;refine Rt ?_;exact aA (C0 _ _) ⟨rfl,rfl,rfl⟩
def cL:Option (Nat × Nat)->AV
 | none=>.agg [.int .i64 0,.int .i64 0,.bool false]
 | some p=>.agg [.int .i64 p.1,.int .i64 p.2,.bool true]
theorem cP(o:Option (Nat × Nat)):NN (cL o):=by
 cases o with
 | none=>exact .agg' (.cons nn (.cons nn (.cons (tB _) .nil)))
 | some n=>exact .agg' (.cons nn (.cons nn (.cons (tB _) .nil)))
def t8(A:List Nd)(mid:Nat):AV:=.agg [.il 12 (bJ A),.int .i64 0,.int .i64 0,.fn (.func 123) [] [],.fn (.func 124) [] [],.fn (.func 125) [] [],.fn (.func 126) [] [],.mp mid]
def fK(A:List Nd)(L:List Key):aP:=[(0,.row 221 8 [t8 A 1]),(1,.mapb (kK cL bI A L))]
theorem tL(h:lk J i=some j):CH mem J (t8 A i) (t8 A j):=
 .agg (.cons (.same _ (.il' (aR A))) (.s (.s (.cons (.same _ (eI _)) (.cons (.same _ (eI _)) (.cons (.same _ (eI _)) (.cons (.same _ (eI _)) (.cons (.mp _ _ h) .nil))))))))
theorem cM(s0:lk J i=some 0)(s1:lk J j=some 1)(m0:lk mem i=some (.row 221 8 [t8 A j]))(m1:lk mem j=some (.mapb (kK cL bI A L))):dR mem J (fK A L):=
 ⟨⟨i,_,s0,m0,.cons (tL s1) .nil⟩,⟨j,_,s1,m1,l7 cP L⟩,trivial⟩
theorem BG:Cv mem J (.agg [.int .i64 0,.int .i64 0,.bool false]) (cL none):=.same _ (cP none)
theorem uR:CH mem J (.agg [.int .i64 0,.int .i64 0,.bool false]) (cL none):=.same (cP none)
theorem Cs(l:Nat × Nat):CH mem J (.agg [.int .i64 l.1,.int .i64 l.2,.bool true]) (cL (some l)):=.same (cP (some l))
theorem i6(o:Option (Nat × Nat)):∃(x:Nat × Nat) (b:Bool),cL o = .agg [.int .i64 x.1,.int .i64 x.2,.bool b]:=by
 cases o with
 | none=>exact⟨(0,0),_,rfl⟩
 | some p=>exact⟨_,_,rfl⟩
theorem o9(x:Nat × Nat)(b:Bool)(h:NN (.agg [.int .i64 x.1,.int .i64 x.2,.bool b])):CH mem J (.agg [.int .i64 x.1,.int .i64 x.2,.bool b]) (.agg [.int .i64 x.1,.int .i64 x.2,.bool b]):=.same h
theorem M6(c:Bool)(l:Nat × Nat):NN (.agg [.int .i64 l.1,.int .i64 l.2,.bool c]):=.agg' (.cons nn (.cons nn (.cons (tB _) .nil)))
theorem R3(L:List Key)(a b:Option (Nat × Nat))(ha:I7 a)(hb:I7 b):
  aH prog [] 188 [.ptr 0 0 0,cL a,cL b] (fK A L) 2 λr m k=>r=cL (c8 bI a b)/\m=fK A L/\k=2:=by
 refine aD bE func188 rfl ?_;cases a with
 | none=>
  cases b with
  | none=>
   refine Rr ?_;exact aW (n':=2) (m':=fK A L) [(0,0),(1,1)] rfl (cM (i:=0) (j:=1) rfl rfl rfl rfl) BG ⟨rfl,rfl,rfl⟩
  | some y=>
   obtain⟨y1,y2⟩:=y;refine Rr ?_;exact aW (n':=2) (m':=fK A L) [(0,0),(1,1)] rfl (cM (i:=0) (j:=1) rfl rfl rfl rfl) BG ⟨rfl,rfl,rfl⟩
 | some x=>
  obtain⟨x1,x2⟩:=x;cases b with
  | none=>
   refine Rr ?_;exact aW (n':=2) (m':=fK A L) [(0,0),(1,1)] rfl (cM (i:=0) (j:=1) rfl rfl rfl rfl) BG ⟨rfl,rfl,rfl⟩
  | some y=>
   obtain⟨y1,y2⟩:=y;obtain⟨a1,a2⟩:=ha _ rfl;obtain⟨b1,b2⟩:=hb _ rfl;simp only at a1 a2 b1 b2;have hP:=Xx x1 x2 y1 y2 om om om om;have hr:cL (c8 bI (some (x1,x2)) (some (y1,y2))) = .agg [.int .i64 ((x1+y1:Nat):Int),.int .i64 ((x2+y2:Nat):Int),.bool true]:=rfl;rw[hr];refine Rr ?_;refine hP.go ?_ (.cons (C0 _ _) (.cons (C0 _ _) .nil)) (C0 _ _);refine Rt ?_;exact aW (n':=2) (m':=fK A L) [(0,0),(1,1)] rfl (cM (i:=0) (j:=1) rfl rfl rfl rfl) (.same _ (cP (some (x1+y1,x2+y2)))) ⟨rfl,rfl,rfl⟩
theorem S6(L:List Key)(a b:Option (Nat × Nat)):
  aH prog [] 189 [.ptr 0 0 0,cL a,cL b] (fK A L) 2 λr m k=>r=cL (fX bI a b)/\m=fK A L/\k=2:=by
 refine aD bE func189 rfl ?_;cases a with
 | none=>
  have hr:cL (fX bI none b)=cL b:=by cases b<;>rfl
  rw[hr];cases b with
  | none=>
   refine Rr ?_;exact aW (n':=2) (m':=fK A L) [(0,0),(1,1)] rfl (cM (i:=0) (j:=1) rfl rfl rfl rfl) (.same _ (cP none)) ⟨rfl,rfl,rfl⟩
  | some y=>
   obtain⟨y1,y2⟩:=y;refine Rr ?_;exact aW (n':=2) (m':=fK A L) [(0,0),(1,1)] rfl (cM (i:=0) (j:=1) rfl rfl rfl rfl) (.same _ (cP (some (y1,y2)))) ⟨rfl,rfl,rfl⟩
 | some x=>
  obtain⟨x1,x2⟩:=x;cases b with
  | none=>
   refine Rr ?_;exact aW (n':=2) (m':=fK A L) [(0,0),(1,1)] rfl (cM (i:=0) (j:=1) rfl rfl rfl rfl) (.same _ (cP (some (x1,x2)))) ⟨rfl,rfl,rfl⟩
  | some y=>
   obtain⟨y1,y2⟩:=y;have hP:=X8 x1 x2 y1 y2;have hr:cL (fX bI (some (x1,x2)) (some (y1,y2))) = .agg [.int .i64 ((min x1 y1:Nat):Int),.int .i64 ((max x2 y2:Nat):Int),.bool true]:=rfl;rw[hr];refine Rr ?_;refine hP.go ?_ (.cons (C0 _ _) (.cons (C0 _ _) .nil)) (C0 _ _);refine Rt ?_;exact aW (n':=2) (m':=fK A L) [(0,0),(1,1)] rfl (cM (i:=0) (j:=1) rfl rfl rfl rfl) (.same _ (cP (some (min x1 y1,max x2 y2)))) ⟨rfl,rfl,rfl⟩
theorem yQ{A:List Nd}{L:List Key}{a b:Option (Nat × Nat)}(ha:I7 a)(hb:I7 b)(h:True){x y r:AV}{mem:aP}{nx:Nat}{K:AV->aP->Nat->Prop}(ea:cL a=x)(eb:cL b=y)(er:cL (c8 bI a b)=r)(hp:i5 [0,1] mem=fK A L)
  (hk:K r (fK A L++iJ [0,1] mem) nx):aH prog [] 188 [.ptr 0 0 0,x,y] mem nx K:=by
 subst ea eb er;refine aH.useI bE [0,1] (R3 L a b ha hb) hp (.cons (.ptr 0 0 0 0 rfl) (.cons (.same _ (cP a)) (.cons (.same _ (cP b)) .nil))) (cM (i:=0) (j:=1) rfl rfl rfl rfl) rfl ?_;rintro r m k ⟨rfl,rfl,rfl⟩;exact⟨cP _,cM (i:=0) (j:=1) rfl rfl rfl rfl,rfl,hk⟩
theorem Ds{A:List Nd}{L:List Key}{a b:Option (Nat × Nat)}(ha hb h:True){x y r:AV}{mem:aP}{nx:Nat}{K:AV->aP->Nat->Prop}(ea:cL a=x)(eb:cL b=y)(er:cL (fX bI a b)=r)(hp:i5 [0,1] mem=fK A L)
  (hk:K r (fK A L++iJ [0,1] mem) nx):aH prog [] 189 [.ptr 0 0 0,x,y] mem nx K:=by
 subst ea eb er;refine aH.useI bE [0,1] (S6 L a b) hp (.cons (.ptr 0 0 0 0 rfl) (.cons (.same _ (cP a)) (.cons (.same _ (cP b)) .nil))) (cM (i:=0) (j:=1) rfl rfl rfl rfl) rfl ?_;rintro r m k ⟨rfl,rfl,rfl⟩;exact⟨cP _,cM (i:=0) (j:=1) rfl rfl rfl rfl,rfl,hk⟩
theorem MV{k:Key}(hL:∀q∈L,dW q)(hk:dW k)(hm:lk mem id=some (.mapb (kK cL bI A L))):
  sK prog mem 219 (.mp id) (rQ k) true=some (if o0 L k=true then .tup [cL (Dl bI A k),.bool true] else .tup [.agg [.int .i64 0,.int .i64 0,.bool false],.bool false]):=by
 have key:(match gT prog 152 (rQ k) (kK cL bI A L) 0 with
     | some (some (_,v))=>some (AV.tup [v,.bool true])
     | some none=>some (AV.tup [.agg [.int .i64 0,.int .i64 0,.bool false],.bool false])
     | none=>none)=some (if o0 L k=true then .tup [cL (Dl bI A k),.bool true] else .tup [.agg [.int .i64 0,.int .i64 0,.bool false],.bool false]):=by
  cases h:o0 L k with
  | false=>rw[rH L 0 h];rfl
  | true=>obtain⟨j,hj,-⟩:=oL hk L 0 hL h;rw[hj];rfl
 have u:Tryz.prog.underlying 219=some (.map 152 214):=rfl;have ak:H8 prog 152 (rQ k)=true:=by
  unfold rQ;generalize Dh k.2=c;rfl
 have z:nP prog 214=some (.agg [.int .i64 0,.int .i64 0,.bool false]):=rfl;unfold sK;simp only[u,ak,hm,z];exact key
def Hv(A:List Nd)(o:Option (Nat × Nat)):AV->aP->Nat->Prop:=λr m k=>∃L',(∀q∈L',dW q)/\r=cL o/\m=fK A L'/\k=2
def M2(A:List Nd)(i:Nat):Prop:=∀(L:List Key) (v:aQ),(∀q∈L,dW q)->iO v->bF v<=1000000->aH prog [] 190 [.ptr 0 0 0,.int .i64 i,cO v] (fK A L) 2 (Hv A ((aZ bI).of A i v))
def QV(A:List Nd)(i:Nat)(w:List UInt8)(res:Option (Nat × Nat))(a:List Key):St:=⟨[(0,.ptr 0 0 0),(6,.ptr 2 0 0),(9,.ptr 3 0 0),(13,.ptr 4 0 0)],[(0,.row 221 8 [t8 A 1]),(1,.mapb (kK cL bI A a)),(2,.row 214 3 [.agg [.int .i64 0,.int .i64 0,.bool false]]),(3,.row 152 2 [.agg [.int .i64 i,.str w]]),(4,.row 214 3 [cL res])],5,215⟩
theorem pC{A:List Nd}{i:Nat}{w:List UInt8}{res:Option (Nat × Nat)}{a:List Key}{s:St}{y:AV}{ia ib ic:Nat}{J:List (Nat × Nat)}(hnt:s.nt=215)(t0:lk J 0=some 0)(t1:lk J 1=some 1)(ta:lk J ia=some 2)(tb:lk J ib=some 3)(tc:lk J ic=some 4)(m0:lk s.mem 0=some (.row 221 8 [t8 A 1]))(m1:lk s.mem 1=some (.mapb (kK cL bI A a)))
  (m2:lk s.mem ia=some (.row 214 3 [.agg [.int .i64 0,.int .i64 0,.bool false]])) (m3:lk s.mem ib=some (.row 152 2 [.agg [.int .i64 i,.str w]])) (m4:lk s.mem ic=some (.row 214 3 [y]))
  (hy:CH s.mem J y (cL res)) (s0:lk s.sl 0=some (.ptr 0 0 0)) (s6:lk s.sl 6=some (.ptr ia 0 0)) (s9:lk s.sl 9=some (.ptr ib 0 0)) (s13:lk s.sl 13=some (.ptr ic 0 0))
  (hc:(pW J && (pU (QV A i w res a).mem && (wE 2 5 J && Nat.ble 2 5)))=true):Conv 2 J s (QV A i w res a):=by
 obtain⟨sl,mem,nx,nt⟩:=s;simp only at hnt m0 m1 m2 m3 m4 s0 s6 s9 s13 hy;subst hnt;exact aE _ hc ⟨⟨0,_,t0,m0,.cons (tL t1) .nil⟩,⟨1,_,t1,m1,l7 cP a⟩,⟨ia,_,ta,m2,.same (.cons (.agg' (.cons nn (.cons nn (.cons (tB _) .nil)))) .nil)⟩,⟨ib,_,tb,m3,.same (.cons (.agg' (.cons nn (.cons nn .nil))) .nil)⟩,⟨ic,_,tc,m4,.cons hy .nil⟩,trivial⟩
  ⟨⟨_,s0,.ptr 0 0 0 0 t0⟩,⟨_,s6,.ptr ia 2 0 0 ta⟩,⟨_,s9,.ptr ib 3 0 0 tb⟩,⟨_,s13,.ptr ic 4 0 0 tc⟩,trivial⟩
theorem Ka(o:Option (Nat × Nat)):fX bI o none=o:=by cases o<;>rfl
theorem Im(o:Option (Nat × Nat)):c8 bI o none=none:=by cases o<;>rfl
theorem yN{A:List Nd}{j:Nat}(ih:M2 A j){L:List Key}{v:aQ}{r:AV}{mem:aP}{nx:Nat}{K:AV->aP->Nat->Prop}(hL:∀q∈L,dW q)(ho:iO v)(hz:bF v<=1000000)(hp:i5 [0,1] mem=fK A L)(er:cL ((aZ bI).of A j v)=r)
  (hk:∀L',(∀q∈L',dW q)->K r (fK A L'++iJ [0,1] mem) nx):aH prog [] 190 [.ptr 0 0 0,.int .i64 j,cO v] mem nx K:=by
 subst er;refine aH.useI bE [0,1] (ih L v hL ho hz) hp (.cons (.ptr 0 0 0 0 rfl) (.s (.cons (.same _ (dC v)) .nil))) (cM (i:=0) (j:=1) rfl rfl rfl rfl) rfl ?_;rintro r m k ⟨L',h1,rfl,rfl,rfl⟩;exact⟨cP _,cM (i:=0) (j:=1) rfl rfl rfl rfl,rfl,hk L' h1⟩
def Ew(A:List Nd)(i:Nat)(w:List UInt8)(v:aQ)(a:List Key)(o:Option (Nat × Nat)):aP:=[(0,.row 221 8 [t8 A 1]),(1,.mapb (kK cL bI A a)),(2,.row 55 4 [cO v]),(3,.row 214 3 [.agg [.int .i64 0,.int .i64 0,.bool false]]),(4,.row 152 2 [.agg [.int .i64 i,.str w]]),(5,.row 214 3 [cL o])]
theorem rL{A:List Nd}{i:Nat}{w:List UInt8}{v:aQ}{a:List Key}{o:Option (Nat × Nat)}{mem:aP}{J:List (Nat × Nat)}{ib ic id ie:Nat}{y:AV}(s0:lk J 0=some 0)(s1:lk J 1=some 1)(sb:lk J ib=some 2)(sc:lk J ic=some 3)(sd:lk J id=some 4)(se:lk J ie=some 5)(m0:lk mem 0=some (.row 221 8 [t8 A 1]))(m1:lk mem 1=some (.mapb (kK cL bI A a)))
  (m2:lk mem ib=some (.row 55 4 [cO v])) (m3:lk mem ic=some (.row 214 3 [.agg [.int .i64 0,.int .i64 0,.bool false]])) (m4:lk mem id=some (.row 152 2 [.agg [.int .i64 i,.str w]])) (m5:lk mem ie=some (.row 214 3 [y])) (hy:CH mem J y (cL o)):dR mem J (Ew A i w v a o):=
 ⟨⟨0,_,s0,m0,.cons (tL s1) .nil⟩,⟨1,_,s1,m1,l7 cP a⟩,⟨ib,_,sb,m2,.same (.cons (dC v) .nil)⟩,⟨ic,_,sc,m3,.same (.cons (.agg' (.cons nn (.cons nn (.cons (tB _) .nil)))) .nil)⟩,⟨id,_,sd,m4,.same (.cons (.agg' (.cons nn (.cons nn .nil))) .nil)⟩,⟨ie,_,se,m5,.cons hy .nil⟩,trivial⟩
theorem XC(h:VT A)(i:Nat)(hi:i<A.length)(ih:∀j<i,M2 A j):M2 A i:=by
 intro L v hL ho hz;have hx:=b9 hi;have hxm:=aAm hx;have gx:=h.node hx;have hE:=NX v ho hz;have nv:=dC v;have hkm:=λ(k:Int) (hk:k∈(aG A i).kids)=>eH h hx hk
 have en:(bJ A)[((i:Nat):Int).toNat]? = some (cW (aG A i)):=by simp[jW,hx]
 have nN:=bB (aG A i);by_cases vv:bG v=0
 .rw[aAh vv,vv] at hE;have hlk:=λ(mem:aP) (id:Nat) (hm:lk mem id=some (.mapb (kK cL bI A L)))=>MV (k:=(i,some v)) hL ⟨ho,vv⟩ hm
  have hko:rQ (i,some v) = .agg [.int .i64 i,.str (fI v)]:=rfl;have hvk:Dl bI A (i,some v)=(aZ bI).of A i v:=rfl;rw[hko] at hlk;have hkok:dW (i,some v):=⟨ho,vv⟩
  have hfn:∀a,o0 a (i,some v)=false->gT prog 152 (.agg [.int .i64 i,.str (fI v)]) (kK cL bI A a) 0=some none:=λa e=>rH (k:=(i,some v)) a 0 e
  have hfy:∀a,(∀q∈a,dW q)->o0 a (i,some v)=true->∃j,gT prog 152 (.agg [.int .i64 i,.str (fI v)]) (kK cL bI A a) 0=some (some (0+j,cL ((aZ bI).of A i v)))/\(kK cL bI A a)[j]? = some (.agg [.int .i64 i,.str (fI v)],cL ((aZ bI).of A i v)):=λa ha e=>oL (k:=(i,some v)) hkok a 0 ha e
  have hsn:∀a,kK cL bI A (a++[(i,some v)])=kK cL bI A a++[(.agg [.int .i64 i,.str (fI v)],cL ((aZ bI).of A i v))]:=λa=>BY cL bI A a (i,some v)
  have hss:z7 (.agg [.int .i64 i,.str (fI v)]) (.agg [.int .i64 i,.str (fI v)])=true:=uX (i,some v);have hp:=JL bI h hi vv;generalize fI v=w at *;obtain⟨vk,vn,vs,vks⟩:=v;have nw:NN (.il 1 (eF w)):=.il' (c7 w);have tw:gB (eF w)=some w:=oD w;generalize hres:(aZ bI).of A i (.mk vk vn vs vks)=res at *;cases hh:o0 L (i,some (.mk vk vn vs vks)) with
  | true=>
   rw[hh,aAh rfl,hvk] at hlk;clear hp;refine aD bE func190 rfl ?_;cases res <;>
   .refine Rr ?_;refine hE.go ?_ (.cons nv .nil) (.tup' (.cons nw (.cons nn .nil)));refine Rr ?_;repeat((first|refine dE.2 ?_|refine bQ ?_|refine aB tw ?_|refine aB en ?_|refine aB (hlk _ _ rfl) ?_);refine Rr ?_)
    first
    | exact aW (n':=2) (m':=fK A L) [(0,0),(1,1)] rfl (cM (i:=0) (j:=1) rfl rfl rfl rfl) (.same _ (M6 _ _)) ⟨L,hL,rfl,rfl,rfl⟩
    | exact aW (n':=2) (m':=fK A L) [(0,0),(1,1)] rfl (cM (i:=0) (j:=1) rfl rfl rfl rfl) (.same _ (M6 _ (0,0))) ⟨L,hL,rfl,rfl,rfl⟩
  | false=>
   rw[hh,aAe sq] at hlk;have hkc:=gx.node.kind;have hyo:=(h.tin.ok _ hxm).value;have hsf:=Sr h hi;have hcf:=λ(_:(aG A i).kind=2) (_:Nat)=>trivial
   have hbf:=λ(_:(aG A i).kind=4) (_:Nat)=>trivial
   have hov:=λ(j:Nat) (hj:j<i) (u:aQ)=>Sa (A:=A) h (i:=j) om (v:=u)
   have hbl:=gx.node.bind;have hkl:=h.tin.klen _ hxm;have hvl0:=h.tin.vlen _ hxm;have hvv:∀u∈(aG A i).values,iO u/\bF u<=1000000/\bG u=0:=λu hu=>⟨((h.tin.ok _ hxm).valuesI u hu).1,by have:=(iF (h.vals_valid hx hu)).2.2;omega,h.vals_valid hx hu⟩
   generalize aG A i=x at *;obtain⟨xk,xn,xl,xh,xw,xb,xv,xc,⟨yk,yn,ys,yks⟩⟩:=x;simp only at hkc hp hkm hsf hcf hbf hbl hvv hkl hvl0;refine aD bE func190 rfl ?_;refine Rr ?_;refine hE.go ?_ (.cons nv .nil) (.tup' (.cons nw (.cons nn .nil)));refine Rr ?_;repeat((first|refine dE.2 ?_|refine bQ ?_|refine aB tw ?_|refine aB en ?_|refine aB (hlk _ _ rfl) ?_);refine Rr ?_)
   refine' gC.joinC (P:=prog) (B:=2) (rest:=H9 Tryz.f190) (Q:=MS prog (Tryz.f190).results.toList (rE 2 (Hv A res))) bE (λa:List Key=>∀q∈a,dW q) (λa=>QV A i w res a) (λhJ=>?_) (λa ha=>?_)
   .refine aI (λh=>?_) (λh=>?_)
    .have k0:xk=0:=su h
     rw[aAh k0] at hp;have hC:=rZ (.mk yk yn ys yks) (.mk vk vn vs vks) hyo;refine Rt ?_;refine hC.go ?_ (.cons (dC _) (.cons nv .nil)) nn;refine Rt ?_;by_cases e:cJ (.mk yk yn ys yks) (.mk vk vn vs vks)=0
     .rw[aAh e] at hp;rw[e];(conv=>whnf);refine gC.many ?_;(conv=>whnf);refine n8.many ?_;(conv=>whnf);refine hJ L _ [(0,0),(1,1),(3,2),(4,3),(17,4)] hL ?_;exact pC rfl rfl rfl rfl rfl rfl rfl rfl rfl rfl rfl (by rw[hp];exact Cs (0,0)) rfl rfl rfl rfl rfl
     .rw[aAe e] at hp;rw[show (cJ (.mk yk yn ys yks) (.mk vk vn vs vks) == 0)=false by simpa using e];(conv=>whnf);refine gC.many ?_;(conv=>whnf);refine hJ L _ [(0,0),(1,1),(3,2),(4,3),(17,4)] hL ?_;exact pC rfl rfl rfl rfl rfl rfl rfl rfl rfl rfl rfl (by rw[hp];exact uR) rfl rfl rfl rfl rfl
    .have k0:xk≠0:=su h
     rw[aAe k0] at hp;refine Rr ?_;refine aI (λh=>?_) (λh=>?_)
     .have k1:xk=1:=su h
      rw[aAh k1] at hp;refine Rt ?_;have hir:yE ⟨xk,xn,xl,xh,xw,xb,xv,xc,.mk yk yn ys yks⟩ (.mk vk vn vs vks)=(decide (vk=0) && decide (xl<=vn) && decide (vn<=xh)):=rfl;rw[hir] at hp;by_cases e1:vk=0
      .rw[show (vk == 0)=true by simpa using e1];refine Rr ?_;by_cases e2:xl<=vn
       .rw[show decide (vn≥xl)=true by simpa using e2];refine Rr ?_;by_cases e3:vn<=xh
        .rw[show decide (vn<=xh)=true by simpa using e3];rw[aAn e1,aAn e2,aAn e3,aBY,aBY,aAh rfl] at hp;refine Rr ?_;have hO:=SV (.ip (cW ⟨xk,xn,xl,xh,xw,xb,xv,xc,.mk yk yn ys yks⟩)) (IntKind.i64.wrap (vn-xl));refine hO.go ?_ (.cons (.ip' nN) (.cons nn .nil)) (.agg' (.cons nn (.cons nn .nil)));(conv=>whnf);repeat(first|(refine hJ L _ [(0,0),(1,1),(3,2),(4,3),(17,4)] hL ?_;exact pC rfl rfl rfl rfl rfl rfl rfl rfl rfl rfl rfl (by rw[hp];exact Cs (1,1)) rfl rfl rfl rfl rfl;done)|(refine Xg ?_;conv=>whnf))
        .rw[show decide (vn<=xh)=false by simpa using e3];rw[aAw e3,aBR,aAe sq] at hp;(conv=>whnf);repeat(first|(refine hJ L _ [(0,0),(1,1),(3,2),(4,3),(17,4)] hL ?_;exact pC rfl rfl rfl rfl rfl rfl rfl rfl rfl rfl rfl (by rw[hp];exact uR) rfl rfl rfl rfl rfl;done)|(refine Xg ?_;conv=>whnf))
       .rw[show decide (vn≥xl)=false by simpa using e2];rw[aAw e2,aBR,aBK,aAe sq] at hp;(conv=>whnf);repeat(first|(refine hJ L _ [(0,0),(1,1),(3,2),(4,3),(17,4)] hL ?_;exact pC rfl rfl rfl rfl rfl rfl rfl rfl rfl rfl rfl (by rw[hp];exact uR) rfl rfl rfl rfl rfl;done)|(refine Xg ?_;conv=>whnf))
      .rw[show (vk == 0)=false by simpa using e1];rw[aAw e1,aBK,aBK,aAe sq] at hp;(conv=>whnf);repeat(first|(refine hJ L _ [(0,0),(1,1),(3,2),(4,3),(17,4)] hL ?_;exact pC rfl rfl rfl rfl rfl rfl rfl rfl rfl rfl rfl (by rw[hp];exact uR) rfl rfl rfl rfl rfl;done)|(refine Xg ?_;conv=>whnf))
     .have k1:xk≠1:=su h
      rw[aAe k1] at hp;refine Rr ?_;refine aI (λh=>?_) (λh=>?_)
      .have k3:xk=3:=su h
       rw[aAh k3] at hp;refine Rr ?_;have hM:=Nv ⟨xk,xn,xl,xh,xw,xb,xv,xc,.mk yk yn ys yks⟩ (.mk vk vn vs vks);refine hM.go ?_ (.cons (.ip' nN) (.cons nv .nil)) nn;cases hm:jA ⟨xk,xn,xl,xh,xw,xb,xv,xc,.mk yk yn ys yks⟩ (.mk vk vn vs vks) with
       | false=>
        rw[hm,aAe sq] at hp;(conv=>whnf);repeat(first|(refine hJ L _ [(0,0),(1,1),(3,2),(4,3),(17,4)] hL ?_;exact pC rfl rfl rfl rfl rfl rfl rfl rfl rfl rfl rfl (by rw[hp];exact uR) rfl rfl rfl rfl rfl;done)|(refine Xg ?_;conv=>whnf))
       | true=>
        rw[hm,aAh rfl] at hp;have hvl:vks.length=xc.length:=by
         obtain⟨q,_⟩:=(l9 (x:=⟨xk,xn,xl,xh,xw,xb,xv,xc,.mk yk yn ys yks⟩)).1 hm;exact q
        have vdk:∀u∈vks,bG u=0:=λu hu=>kA vv u hu
        have hs:=hsf k3 vks vdk;have hnx:=λ(k:Nat) (hk:k<xc.length)=>KC bI (x:=⟨xk,xn,xl,xh,xw,xb,xv,xc,.mk yk yn ys yks⟩) (of:=(aZ bI).of A) (vs:=vks) hk hvl
        have hs0:NC bI ⟨xk,xn,xl,xh,xw,xb,xv,xc,.mk yk yn ys yks⟩ ((aZ bI).of A) vks 0=some (0,0):=rfl;rw[show jN (.mk vk vn vs vks)=vks from rfl] at hp;simp only at hnx;generalize NC bI ⟨xk,xn,xl,xh,xw,xb,xv,xc,.mk yk yn ys yks⟩ ((aZ bI).of A) vks=G at *;have oks:=jO ho.2.2.2.2;have szs:∀u∈vks,bF u<=1000000:=λu hu=>by have:=Cq hu;simp[bF] at hz;omega
        refine Rr ?_;refine bA.at bE (λp:Nat × List Key=>p.1<=xc.length/\∀q∈p.2,dW q)
         (λp=>⟨[(0,.ptr 0 0 0),(5,.ptr 2 0 0),(6,.ptr 3 0 0),(9,.ptr 4 0 0),(13,.ptr 5 0 0),(118,.il 1 (bL xc)),(119,.int .i64 xc.length),(120,.int .i64 p.1)],Ew A i w (.mk vk vn vs vks) p.2 (G p.1),6,215⟩)
         (λp=>xc.length-p.1) (0,L) [(0,0),(1,1),(2,2),(3,3),(4,4),(17,5)] ⟨aAN _,hL⟩
         (aE _ rfl (rL (ib:=2) (ic:=3) (id:=4) (ie:=17) rfl rfl rfl rfl rfl rfl rfl rfl rfl rfl rfl rfl (by rw[hs0];exact Cs (0,0)))
          ⟨aF,aF,aF,aF,aF,aM (.il' (bH _)),⟨_,rfl,.int (by rw[aK])⟩,aJ,trivial⟩) ?_
        rintro⟨k,L1⟩ ⟨hk,hL1⟩;simp only at hk hL1 |-;obtain⟨x1,b1,hF1⟩:=i6 (G k);have nf1:=cP (G k);rw[hF1] at nf1;unfold Ew;rw[hF1];refine Rr ?_;refine aI (λhb=>?_) (λhb=>?_)
        .have hlt:k<xc.length:=su hb
         have hlt2:k<vks.length:=om;obtain⟨x2,b2,hF2⟩:=i6 (G (k+1));have hsk:=hs k;have hsk1:=hs (k+1);have hnk:=hnx k hlt;have e1:(bL xc)[((k:Nat):Int).toNat]? = some (.int .i64 xc[k]):=by simp[bP,aAa hlt]
         have e2:(aU vks)[((k:Nat):Int).toNat]? = some (cO vks[k]):=by rw[aAc,gQ,aAa hlt2];rfl
         obtain⟨q0,q1⟩:=hkm xc[k] (aAq hlt);have ok1:=oks _ (aAq hlt2);have sz1:=szs _ (aAq hlt2);have vd1:=vdk _ (aAq hlt2);generalize xc[k]=q at *;generalize vks[k]=u at *;obtain⟨q,rfl⟩:=aAu q0;rw[aAc] at q1 hnk;obtain⟨x3,b3,hF3⟩:=i6 ((aZ bI).of A q u);have iq:=ih q q1;obtain⟨u1,u2,u3,u4⟩:=u;refine Rr ?_;refine aB e1 ?_;refine Rr ?_;refine aB e2 ?_;refine Rr ?_;refine yN iq hL1 ok1 sz1 rfl hF3 λL2 hL2=>?_
         refine Rt ?_;refine yQ (r:=.agg [.int .i64 x2.1,.int .i64 x2.2,.bool b2]) hsk (hov q q1 _ vd1) trivial hF1 hF3 (by rw[<-hnk];exact hF2) rfl ?_;refine Rt ?_;have nf2:=cP (G (k+1));rw[hF2] at nf2;exact .mk (k+1,L2) [(0,0),(1,1),(2,2),(3,3),(4,4),(5,5)] ⟨by simp only;omega,hL2⟩
          (aE _ rfl (rL (ib:=2) (ic:=3) (id:=4) (ie:=5) rfl rfl rfl rfl rfl rfl rfl rfl rfl rfl rfl rfl (by simp only;rw[hF2];exact o9 _ _ nf2))
           ⟨aF,aF,aF,aF,aF,aM (.il' (bH _)),aJ,⟨_,rfl,.int (by rw[aV oq];simp)⟩,trivial⟩) (by simp only;omega)
        .have hke:k=xc.length:=by
          have:¬k<xc.length:=su hb
          omega
         (conv=>whnf);repeat(first|(refine hJ L1 _ [(0,0),(1,1),(3,2),(4,3),(5,4)] hL1 ?_;exact pC rfl rfl rfl rfl rfl rfl rfl rfl rfl rfl rfl (by rw[hp,<-hke,hF1];exact o9 x1 b1 nf1) rfl rfl rfl rfl rfl;done)|(refine Xg ?_;conv=>whnf))
      .have k3:xk≠3:=su h
       rw[aAe k3] at hp;refine Rr ?_;refine aI (λh=>?_) (λh=>?_)
       .have k2:xk=2:=su h
        rw[aAh k2] at hp;have hs:=hcf k2;have hnx:∀(k:Nat) (hk:k<xc.length),A7 bI ⟨xk,xn,xl,xh,xw,xb,xv,xc,.mk yk yn ys yks⟩ (λq=>(aZ bI).of A q (.mk vk vn vs vks)) (k+1)=fX bI (A7 bI ⟨xk,xn,xl,xh,xw,xb,xv,xc,.mk yk yn ys yks⟩ (λq=>(aZ bI).of A q (.mk vk vn vs vks)) k) (c8 bI (some (1,1)) ((aZ bI).of A xc[k].toNat (.mk vk vn vs vks))):=λk hk=>CE bI (x:=⟨xk,xn,xl,xh,xw,xb,xv,xc,.mk yk yn ys yks⟩) (al:=λq=>(aZ bI).of A q (.mk vk vn vs vks)) hk
        have hs0:A7 bI ⟨xk,xn,xl,xh,xw,xb,xv,xc,.mk yk yn ys yks⟩ (λq=>(aZ bI).of A q (.mk vk vn vs vks)) 0=none:=rfl;generalize A7 bI ⟨xk,xn,xl,xh,xw,xb,xv,xc,.mk yk yn ys yks⟩ (λq=>(aZ bI).of A q (.mk vk vn vs vks))=G at *;refine Rr ?_;refine bA.at bE (λp:Nat × List Key=>p.1<=xc.length/\∀q∈p.2,dW q)
         (λp=>⟨[(0,.ptr 0 0 0),(5,.ptr 2 0 0),(6,.ptr 3 0 0),(9,.ptr 4 0 0),(12,.ip (cW ⟨xk,xn,xl,xh,xw,xb,xv,xc,.mk yk yn ys yks⟩)),(13,.ptr 5 0 0),(142,.il 1 (bL xc)),(143,.int .i64 xc.length),(144,.int .i64 p.1)],Ew A i w (.mk vk vn vs vks) p.2 (G p.1),6,215⟩)
         (λp=>xc.length-p.1) (0,L) [(0,0),(1,1),(2,2),(3,3),(4,4),(17,5)] ⟨aAN _,hL⟩
         (aE _ rfl (rL (ib:=2) (ic:=3) (id:=4) (ie:=17) rfl rfl rfl rfl rfl rfl rfl rfl rfl rfl rfl rfl (by rw[hs0];exact uR))
          ⟨aF,aF,aF,aF,aM (.ip' nN),aF,aM (.il' (bH _)),⟨_,rfl,.int (by rw[aK])⟩,aJ,trivial⟩) ?_
        rintro⟨k,L1⟩ ⟨hk,hL1⟩;simp only at hk hL1 |-;obtain⟨x1,b1,hF1⟩:=i6 (G k);have nf1:=cP (G k);rw[hF1] at nf1;unfold Ew;rw[hF1];refine Rr ?_;refine aI (λhb=>?_) (λhb=>?_)
        .have hlt:k<xc.length:=su hb
         obtain⟨x2,b2,hF2⟩:=i6 (G (k+1));have hsk:=hs k;have hsk1:=hs (k+1);have hnk:=hnx k hlt;have e1:(bL xc)[((k:Nat):Int).toNat]? = some (.int .i64 xc[k]):=by simp[bP,aAa hlt]
         obtain⟨q0,q1⟩:=hkm xc[k] (aAq hlt);generalize xc[k]=q at *;obtain⟨q,rfl⟩:=aAu q0;rw[aAc] at q1 hnk;have hoq:=hov q q1 (.mk vk vn vs vks) vv;obtain⟨x3,b3,hF3⟩:=i6 ((aZ bI).of A q (.mk vk vn vs vks));obtain⟨x4,b4,hF4⟩:=i6 (c8 bI (some (1,1)) ((aZ bI).of A q (.mk vk vn vs vks)));have iq:=ih q q1;refine Rr ?_;refine aB e1 ?_;refine Rr ?_;have hO:=SV (.ip (cW ⟨xk,xn,xl,xh,xw,xb,xv,xc,.mk yk yn ys yks⟩)) k;refine hO.go ?_ (.cons (.ip' nN) (.cons nn .nil)) (.agg' (.cons nn (.cons nn .nil)));refine Rt ?_;refine yN (r:=.agg [.int .i64 x3.1,.int .i64 x3.2,.bool b3]) iq hL1 ho hz rfl hF3 λL2 hL2=>?_
         refine Rt ?_;refine yQ (r:=.agg [.int .i64 x4.1,.int .i64 x4.2,.bool b4]) (a:=some (1,1)) I7.up hoq trivial rfl hF3 hF4 rfl ?_;refine Rt ?_;refine Ds (r:=.agg [.int .i64 x2.1,.int .i64 x2.2,.bool b2]) trivial trivial trivial hF1 hF4 (by rw[<-hnk];exact hF2) rfl ?_;refine Rt ?_;have nf2:=cP (G (k+1));rw[hF2] at nf2;exact .mk (k+1,L2) [(0,0),(1,1),(2,2),(3,3),(4,4),(5,5)] ⟨by simp only;omega,hL2⟩
          (aE _ rfl (rL (ib:=2) (ic:=3) (id:=4) (ie:=5) rfl rfl rfl rfl rfl rfl rfl rfl rfl rfl rfl rfl (by simp only;rw[hF2];exact o9 _ _ nf2))
           ⟨aF,aF,aF,aF,aM (.ip' nN),aF,aM (.il' (bH _)),aJ,⟨_,rfl,.int (by rw[aV oq];simp)⟩,trivial⟩) (by simp only;omega)
        .have hke:k=xc.length:=by
          have:¬k<xc.length:=su hb
          omega
         (conv=>whnf);repeat(first|(refine hJ L1 _ [(0,0),(1,1),(3,2),(4,3),(5,4)] hL1 ?_;exact pC rfl rfl rfl rfl rfl rfl rfl rfl rfl rfl rfl (by rw[hp,<-hke,hF1];exact o9 x1 b1 nf1) rfl rfl rfl rfl rfl;done)|(refine Xg ?_;conv=>whnf))
       .have k2:xk≠2:=su h
        rw[aAe k2] at hp;refine Rr ?_;refine aI (λh=>?_) (λh=>?_)
        .have k4:xk=4:=su h
         rw[aAh k4] at hp;have hs:=hbf k4;have hb4:=hbl k4;have hnx:∀(k:Nat) (hk:k<xv.length),BM bI ⟨xk,xn,xl,xh,xw,xb,xv,xc,.mk yk yn ys yks⟩ ((aZ bI).of A) (λq=>(aZ bI).of A q (.mk vk vn vs vks)) (k+1)=fX bI (BM bI ⟨xk,xn,xl,xh,xw,xb,xv,xc,.mk yk yn ys yks⟩ ((aZ bI).of A) (λq=>(aZ bI).of A q (.mk vk vn vs vks)) k) (c8 bI ((aZ bI).of A (xc.getD 0 0).toNat xv[k]) ((aZ bI).of A (xc[k+1]'om).toNat (.mk vk vn vs vks))):=λk hk=>BJ bI (x:=⟨xk,xn,xl,xh,xw,xb,xv,xc,.mk yk yn ys yks⟩) (of:=(aZ bI).of A) (al:=λq=>(aZ bI).of A q (.mk vk vn vs vks)) hk hb4
         have hs0:BM bI ⟨xk,xn,xl,xh,xw,xb,xv,xc,.mk yk yn ys yks⟩ ((aZ bI).of A) (λq=>(aZ bI).of A q (.mk vk vn vs vks)) 0=none:=rfl;generalize BM bI ⟨xk,xn,xl,xh,xw,xb,xv,xc,.mk yk yn ys yks⟩ ((aZ bI).of A) (λq=>(aZ bI).of A q (.mk vk vn vs vks))=G at *;refine Rr ?_;refine bA.at bE (λp:Nat × List Key=>p.1<=xv.length/\∀q∈p.2,dW q)
          (λp=>⟨[(0,.ptr 0 0 0),(5,.ptr 2 0 0),(6,.ptr 3 0 0),(9,.ptr 4 0 0),(12,.ip (cW ⟨xk,xn,xl,xh,xw,xb,xv,xc,.mk yk yn ys yks⟩)),(13,.ptr 5 0 0),(172,.il 4 (aU xv)),(173,.int .i64 xv.length),(174,.int .i64 p.1)],Ew A i w (.mk vk vn vs vks) p.2 (G p.1),6,215⟩)
          (λp=>xv.length-p.1) (0,L) [(0,0),(1,1),(2,2),(3,3),(4,4),(17,5)] ⟨aAN _,hL⟩
          (aE _ rfl (rL (ib:=2) (ic:=3) (id:=4) (ie:=17) rfl rfl rfl rfl rfl rfl rfl rfl rfl rfl rfl rfl (by rw[hs0];exact uR))
           ⟨aF,aF,aF,aF,aM (.ip' nN),aF,aM (.il' (bK _)),⟨_,rfl,.int (by rw[aC])⟩,aJ,trivial⟩) ?_
         rintro⟨k,L1⟩ ⟨hk,hL1⟩;simp only at hk hL1 |-;obtain⟨x1,b1,hF1⟩:=i6 (G k);have nf1:=cP (G k);rw[hF1] at nf1;unfold Ew;rw[hF1];refine Rr ?_;refine aI (λhb=>?_) (λhb=>?_)
         .have hlt:k<xv.length:=su hb
          have hlt2:k+1<xc.length:=om;have hlt0:0<xc.length:=om;obtain⟨x2,b2,hF2⟩:=i6 (G (k+1));have nf2:=cP (G (k+1));rw[hF2] at nf2;have hsk:=hs k;have hsk1:=hs (k+1);have hnk:=hnx k hlt;have e1:(aU xv)[((k:Nat):Int).toNat]? = some (cO xv[k]):=by rw[aAc,gQ,aAa hlt];rfl
          have hwr:IntKind.i64.wrap ((k:Int)+1)=((k+1:Nat):Int):=by
           rw[aV oq];simp
          have e2:(bL xc)[((k+1:Nat):Int).toNat]? = some (.int .i64 xc[k+1]):=by
           rw[aAc];simp[bP,aAa hlt2]
          have e0:(bL xc)[(0:Int).toNat]? = some (.int .i64 (xc.getD 0 0)):=by
           rw[show (0:Int).toNat=0 from rfl,aAb,aAa hlt0];simp[bP,aAa hlt0]
          obtain⟨q0,q1⟩:=hkm xc[k+1] (aAq hlt2);obtain⟨p0,p1⟩:=hkm (xc.getD 0 0) (by rw[aAb,aAa hlt0];exact aAq hlt0);obtain⟨ok1,sz1,vd1⟩:=hvv _ (aAq hlt);generalize xc[k+1]=q at *;generalize xc.getD 0 0=p at *;generalize xv[k]=u at *;obtain⟨q,rfl⟩:=aAu q0;obtain⟨p,rfl⟩:=aAu p0;rw[aAc] at q1 p1;rw[aAc,aAc] at hnk;have hoq:=hov q q1 (.mk vk vn vs vks) vv;have hop:=hov p p1 u vd1;have iq:=ih q q1;have ip:=ih p p1;obtain⟨x4,b4,hF4⟩:=i6 ((aZ bI).of A p u);obtain⟨u1,u2,u3,u4⟩:=u;cases hq:(aZ bI).of A q (.mk vk vn vs vks) with
          | none=>
           rw[hq,Im,Ka] at hnk;have hF3:cL ((aZ bI).of A q (.mk vk vn vs vks)) = .agg [.int .i64 0,.int .i64 0,.bool false]:=by rw[hq];rfl
           rw[hnk,hF1] at hF2;refine Rr ?_;refine aB e1 ?_;refine Rr ?_;rw[hwr];refine Rr ?_;refine aB e2 ?_;refine Rr ?_;refine yN iq hL1 ho hz rfl hF3 λL2 hL2=>?_
           refine Rt ?_;exact .mk (k+1,L2) [(0,0),(1,1),(2,2),(3,3),(4,4),(5,5)] ⟨by simp only;omega,hL2⟩
            (aE _ rfl (rL (ib:=2) (ic:=3) (id:=4) (ie:=5) rfl rfl rfl rfl rfl rfl rfl rfl rfl rfl rfl rfl (by simp only;rw[hnk,hF1];exact o9 _ _ nf1))
             ⟨aF,aF,aF,aF,aM (.ip' nN),aF,aM (.il' (bK _)),aJ,⟨_,rfl,.int hwr⟩,trivial⟩) (by simp only;omega)
          | some n=>
           have hF3:cL ((aZ bI).of A q (.mk vk vn vs vks)) = .agg [.int .i64 n.1,.int .i64 n.2,.bool true]:=by rw[hq];rfl
           have hpr:True:=trivial;obtain⟨x5,b5,hF5⟩:=i6 (c8 bI ((aZ bI).of A p (.mk u1 u2 u3 u4)) ((aZ bI).of A q (.mk vk vn vs vks)));refine Rr ?_;refine aB e1 ?_;refine Rr ?_;rw[hwr];refine Rr ?_;refine aB e2 ?_;refine Rr ?_;refine yN iq hL1 ho hz rfl hF3 λL2 hL2=>?_
           refine Rt ?_;refine aB e0 ?_;refine Rr ?_;refine yN ip hL2 ok1 sz1 rfl hF4 λL3 hL3=>?_
           refine Rt ?_;refine yQ (r:=.agg [.int .i64 x5.1,.int .i64 x5.2,.bool b5]) hop hoq hpr hF4 hF3 hF5 rfl ?_;refine Rt ?_;refine Ds (r:=.agg [.int .i64 x2.1,.int .i64 x2.2,.bool b2]) trivial trivial trivial hF1 hF5 (by rw[<-hnk];exact hF2) rfl ?_;refine Rt ?_;exact .mk (k+1,L3) [(0,0),(1,1),(2,2),(3,3),(4,4),(5,5)] ⟨by simp only;omega,hL3⟩
            (aE _ rfl (rL (ib:=2) (ic:=3) (id:=4) (ie:=5) rfl rfl rfl rfl rfl rfl rfl rfl rfl rfl rfl rfl (by simp only;rw[hF2];exact o9 _ _ nf2))
             ⟨aF,aF,aF,aF,aM (.ip' nN),aF,aM (.il' (bK _)),aJ,⟨_,rfl,.int hwr⟩,trivial⟩) (by simp only;omega)
         .have hke:k=xv.length:=by
           have:¬k<xv.length:=su hb
           omega
          (conv=>whnf);repeat(first|(refine hJ L1 _ [(0,0),(1,1),(3,2),(4,3),(5,4)] hL1 ?_;exact pC rfl rfl rfl rfl rfl rfl rfl rfl rfl rfl rfl (by rw[hp,<-hke,hF1];exact o9 x1 b1 nf1) rfl rfl rfl rfl rfl;done)|(refine Xg ?_;conv=>whnf))
        .have k4:xk≠4:=su h
         exfalso;omega
   .have nf:=cP res;generalize hk:((i,some (aQ.mk vk vn vs vks)):Key)=kk at *;cases h2:o0 a kk with
    | false=>
     have hf:=hfn a h2;have hs:=hsn a;clear hfn hfy hsn hlk hp hE;unfold QV;generalize kK cL bI A a=E at *;obtain⟨x,b,hF⟩:∃(x:Nat × Nat) (b:Bool),cL res = .agg [.int .i64 x.1,.int .i64 x.2,.bool b]:=i6 res;rw[hF] at hs nf |-;refine Rr ?_;rw[hf];refine Rr ?_;refine iM.2 ?_;refine Rr ?_;refine aW (n':=2) (m':=fK A (a++[kk])) [(0,0),(1,1)] rfl (cM (i:=0) (j:=1) rfl rfl rfl (by rw[hs];rfl)) (.same _ (by assumption)) ⟨a++[kk],λq hq=>?_,hF.symm,rfl,rfl⟩;rcases aAt.1 hq with hq|hq
     .exact ha q hq
     .rw[aBa.1 hq];exact hkok
    | true=>
     obtain⟨j,hj,he⟩:=hfy a ha h2;clear hfn hfy hsn hlk hp hE;unfold QV;generalize hE:kK cL bI A a=E at *;rw[aAF] at hj;obtain⟨x,b,hF⟩:∃(x:Nat × Nat) (b:Bool),cL res = .agg [.int .i64 x.1,.int .i64 x.2,.bool b]:=i6 res;rw[hF] at hj he nf |-;refine Rr ?_;rw[hj];refine Rr ?_;refine aB he ?_;refine Rr ?_;refine aN hss ?_;refine Rr ?_;refine dE.2 ?_;rw[Bm he];refine Rr ?_;exact aW (n':=2) (m':=fK A a) [(0,0),(1,1)] rfl (cM (i:=0) (j:=1) rfl rfl rfl (by rw[hE];rfl)) (.same _ nf) ⟨a,ha,hF.symm,rfl,rfl⟩
 .have hn:(aZ bI).of A i v=none:=by
   rw[(aZ bI).of_eq h hi]
   show qE _ _ _ _=_
   unfold qE;rw[aAh vv]
  rw[hn];rw[aAe vv] at hE;clear hn;generalize bG v=e at *;have hb:(e != 0)=true:=su vv
  obtain⟨vk,vn,vs,vks⟩:=v;refine aD bE func190 rfl ?_;refine Rr ?_;refine hE.go ?_ (.cons nv .nil) (.tup' (.cons .nsl (.cons nn .nil)));refine Rt ?_;rw[hb];refine Rt ?_;exact aW (n':=2) (m':=fK A L) [(0,0),(1,1)] rfl (cM (i:=0) (j:=1) rfl rfl rfl rfl) BG ⟨L,hL,rfl,rfl,rfl⟩
theorem WW(h:VT A):∀i,i<A.length->M2 A i:=by
 intro i
 induction i using Nat.strongRecOn with
 | ind i ih=>exact λhi=>XC h i hi λj hj=>ih j hj om
def IU(A:List Nd)(i:Nat):Prop:=∀(L:List Key),(∀q∈L,dW q)->aH prog [] 122 [.ptr 0 0 0,.int .i64 i] (fK A L) 2 (Hv A ((aZ bI).all A i))
theorem D3{A:List Nd}{j:Nat}(ih:IU A j){L:List Key}{r:AV}{mem:aP}{nx:Nat}{K:AV->aP->Nat->Prop}(hL:∀q∈L,dW q)(hp:i5 [0,1] mem=fK A L)(er:cL ((aZ bI).all A j)=r)
  (hk:∀L',(∀q∈L',dW q)->K r (fK A L'++iJ [0,1] mem) nx):aH prog [] 122 [.ptr 0 0 0,.int .i64 j] mem nx K:=by
 subst er;refine aH.useI bE [0,1] (ih L hL) hp (.cons (.ptr 0 0 0 0 rfl) (.s .nil)) (cM (i:=0) (j:=1) rfl rfl rfl rfl) rfl ?_;rintro r m k ⟨L',h1,rfl,rfl,rfl⟩;exact⟨cP _,cM (i:=0) (j:=1) rfl rfl rfl rfl,rfl,hk L' h1⟩
def zW(A:List Nd)(i:Nat)(a:List Key)(o:Option (Nat × Nat)):aP:=[(0,.row 221 8 [t8 A 1]),(1,.mapb (kK cL bI A a)),(2,.row 214 3 [.agg [.int .i64 0,.int .i64 0,.bool false]]),(3,.row 152 2 [.agg [.int .i64 i,.str []]]),(4,.row 214 3 [cL o])]
theorem sD{A:List Nd}{i:Nat}{a:List Key}{o:Option (Nat × Nat)}{mem:aP}{J:List (Nat × Nat)}{ib ic id:Nat}{y:AV}(s0:lk J 0=some 0)(s1:lk J 1=some 1)(sb:lk J ib=some 2)(sc:lk J ic=some 3)(sd:lk J id=some 4)(m0:lk mem 0=some (.row 221 8 [t8 A 1]))(m1:lk mem 1=some (.mapb (kK cL bI A a)))
  (m2:lk mem ib=some (.row 214 3 [.agg [.int .i64 0,.int .i64 0,.bool false]])) (m3:lk mem ic=some (.row 152 2 [.agg [.int .i64 i,.str []]])) (m4:lk mem id=some (.row 214 3 [y])) (hy:CH mem J y (cL o)):dR mem J (zW A i a o):=
 ⟨⟨0,_,s0,m0,.cons (tL s1) .nil⟩,⟨1,_,s1,m1,l7 cP a⟩,⟨ib,_,sb,m2,.same (.cons (.agg' (.cons nn (.cons nn (.cons (tB _) .nil)))) .nil)⟩,⟨ic,_,sc,m3,.same (.cons (.agg' (.cons nn (.cons nn .nil))) .nil)⟩,⟨id,_,sd,m4,.cons hy .nil⟩,trivial⟩
def Qc(A:List Nd)(i:Nat)(res:Option (Nat × Nat))(a:List Key):St:=⟨[(0,.ptr 0 0 0),(4,.ptr 2 0 0),(5,.ptr 3 0 0),(9,.ptr 4 0 0)],zW A i a res,5,146⟩
theorem A9{A:List Nd}{i:Nat}{res:Option (Nat × Nat)}{a:List Key}{s:St}{y:AV}{ia ib ic:Nat}{J:List (Nat × Nat)}(hnt:s.nt=146)(t0:lk J 0=some 0)(t1:lk J 1=some 1)(ta:lk J ia=some 2)(tb:lk J ib=some 3)(tc:lk J ic=some 4)(m0:lk s.mem 0=some (.row 221 8 [t8 A 1]))(m1:lk s.mem 1=some (.mapb (kK cL bI A a)))
  (m2:lk s.mem ia=some (.row 214 3 [.agg [.int .i64 0,.int .i64 0,.bool false]])) (m3:lk s.mem ib=some (.row 152 2 [.agg [.int .i64 i,.str []]])) (m4:lk s.mem ic=some (.row 214 3 [y]))
  (hy:CH s.mem J y (cL res)) (s0:lk s.sl 0=some (.ptr 0 0 0)) (s4:lk s.sl 4=some (.ptr ia 0 0)) (s5:lk s.sl 5=some (.ptr ib 0 0)) (s9:lk s.sl 9=some (.ptr ic 0 0))
  (hc:(pW J && (pU (Qc A i res a).mem && (wE 2 5 J && Nat.ble 2 5)))=true):Conv 2 J s (Qc A i res a):=by
 obtain⟨sl,mem,nx,nt⟩:=s;simp only at hnt m0 m1 m2 m3 m4 s0 s4 s5 s9 hy;subst hnt;exact aE _ hc (sD t0 t1 ta tb tc m0 m1 m2 m3 m4 hy)
  ⟨⟨_,s0,.ptr 0 0 0 0 t0⟩,⟨_,s4,.ptr ia 2 0 0 ta⟩,⟨_,s5,.ptr ib 3 0 0 tb⟩,⟨_,s9,.ptr ic 4 0 0 tc⟩,trivial⟩
theorem Uj(h:VT A)(i:Nat)(hi:i<A.length)(ih:∀j<i,IU A j):IU A i:=by
 intro L hL;have hx:=b9 hi;have hxm:=aAm hx;have gx:=h.node hx;have hkm:=λ(k:Int) (hk:k∈(aG A i).kids)=>eH h hx hk
 have en:(bJ A)[((i:Nat):Int).toNat]? = some (cW (aG A i)):=by simp[jW,hx]
 have nN:=bB (aG A i);have hlk:=λ(mem:aP) (id:Nat) (hm:lk mem id=some (.mapb (kK cL bI A L)))=>MV (k:=(i,none)) hL trivial hm
 have hko:rQ (i,none) = .agg [.int .i64 i,.str []]:=rfl;have hvk:Dl bI A (i,none)=(aZ bI).all A i:=rfl;rw[hko] at hlk;have hfn:∀a,o0 a (i,none)=false->gT prog 152 (.agg [.int .i64 i,.str []]) (kK cL bI A a) 0=some none:=λa e=>rH (k:=(i,none)) a 0 e
 have hfy:∀a,(∀q∈a,dW q)->o0 a (i,none)=true->∃j,gT prog 152 (.agg [.int .i64 i,.str []]) (kK cL bI A a) 0=some (some (0+j,cL ((aZ bI).all A i)))/\(kK cL bI A a)[j]? = some (.agg [.int .i64 i,.str []],cL ((aZ bI).all A i)):=λa ha e=>oL (k:=(i,none)) trivial a 0 ha e
 have hsn:∀a,kK cL bI A (a++[(i,none)])=kK cL bI A a++[(.agg [.int .i64 i,.str []],cL ((aZ bI).all A i))]:=λa=>BY cL bI A a (i,none)
 have hss:z7 (.agg [.int .i64 i,.str []]) (.agg [.int .i64 i,.str []])=true:=uX (i,none);have hp:=G9 bI h hi;generalize hres:(aZ bI).all A i=res at *;cases hh:o0 L (i,none) with
 | true=>
  rw[hh,aAh rfl,hvk] at hlk;clear hp;refine aD bE func122 rfl ?_;cases res <;>
  .refine Rr ?_;repeat((first|refine dE.2 ?_|refine bQ ?_|refine aB en ?_|refine aB (hlk _ _ rfl) ?_);refine Rr ?_)
   first
   | exact aW (n':=2) (m':=fK A L) [(0,0),(1,1)] rfl (cM (i:=0) (j:=1) rfl rfl rfl rfl) (.same _ (M6 _ _)) ⟨L,hL,rfl,rfl,rfl⟩
   | exact aW (n':=2) (m':=fK A L) [(0,0),(1,1)] rfl (cM (i:=0) (j:=1) rfl rfl rfl rfl) (.same _ (M6 _ (0,0))) ⟨L,hL,rfl,rfl,rfl⟩
 | false=>
  rw[hh,aAe sq] at hlk;have hkc:=gx.node.kind;have hsq:=TW h hi;have hcs:=λ(_:(aG A i).kind=2) (_:Nat)=>trivial
  have hbs:=λ(_:(aG A i).kind=4) (_:Nat)=>trivial
  have hov:=λ(j:Nat) (hj:j<i) (u:aQ)=>Sa (A:=A) h (i:=j) om (v:=u)
  have hav:=λ(j:Nat) (hj:j<i)=>TC (A:=A) h (i:=j) om
  have hbl:=gx.node.bind;have hkl:=h.tin.klen _ hxm;have hvl0:=h.tin.vlen _ hxm;have hSp:=λ(_:(aG A i).kind=1)=>Xj (.ip (cW (aG A i)))
  have hvv:∀u∈(aG A i).values,iO u/\bF u<=1000000/\bG u=0:=λu hu=>⟨((h.tin.ok _ hxm).valuesI u hu).1,by have:=(iF (h.vals_valid hx hu)).2.2;omega,h.vals_valid hx hu⟩
  have hofc:=λ(j:Nat) (hj:j<i)=>WW h j om
  generalize aG A i=x at *;obtain⟨xk,xn,xl,xh,xw,xb,xv,xc,⟨yk,yn,ys,yks⟩⟩:=x;simp only at hkc hp hkm hsq hcs hbs hbl hvv hkl hvl0 hSp;refine aD bE func122 rfl ?_;refine Rr ?_;repeat((first|refine dE.2 ?_|refine bQ ?_|refine aB en ?_|refine aB (hlk _ _ rfl) ?_);refine Rr ?_)
  refine' gC.joinC (P:=prog) (B:=2) (rest:=H9 Tryz.f122) (Q:=MS prog (Tryz.f122).results.toList (rE 2 (Hv A res))) bE (λa:List Key=>∀q∈a,dW q) (λa=>Qc A i res a) (λhJ=>?_) (λa ha=>?_)
  .refine aI (λh=>?_) (λh=>?_)
   .have k1:xk=1:=su h
    rw[aAh k1] at hp;have hS:=hSp k1;refine Rr ?_;refine hS.go ?_ (.cons (.ip' nN) .nil) (.agg' (.cons nn (.cons nn .nil)));(conv=>whnf);repeat(first|(refine dE.2 ?_;conv=>whnf)|(refine bQ ?_;conv=>whnf))
    repeat(first|(refine hJ L _ [(0,0),(1,1),(2,2),(3,3),(16,4)] hL ?_;exact A9 rfl rfl rfl rfl rfl rfl rfl rfl rfl rfl rfl (by rw[hp];exact Cs _) rfl rfl rfl rfl rfl;done)|(refine Xg ?_;conv=>whnf))
   .have k1:xk≠1:=su h
    rw[aAe k1] at hp;refine Rr ?_;refine aI (λh=>?_) (λh=>?_)
    .have k3:xk=3:=su h
     rw[aAh k3] at hp;have hs:=hsq k3;have hnx:∀(k:Nat) (hk:k<xc.length),I8 bI ⟨xk,xn,xl,xh,xw,xb,xv,xc,.mk yk yn ys yks⟩ ((aZ bI).all A) (k+1)=c8 bI (I8 bI ⟨xk,xn,xl,xh,xw,xb,xv,xc,.mk yk yn ys yks⟩ ((aZ bI).all A) k) ((aZ bI).all A xc[k].toNat):=λk hk=>KP bI (x:=⟨xk,xn,xl,xh,xw,xb,xv,xc,.mk yk yn ys yks⟩) (al:=((aZ bI).all A)) hk
     have hs0:I8 bI ⟨xk,xn,xl,xh,xw,xb,xv,xc,.mk yk yn ys yks⟩ ((aZ bI).all A) 0=some (0,0):=rfl;generalize I8 bI ⟨xk,xn,xl,xh,xw,xb,xv,xc,.mk yk yn ys yks⟩ ((aZ bI).all A)=G at *;refine Rr ?_;refine bA.at bE (λp:Nat × List Key=>p.1<=xc.length/\∀q∈p.2,dW q)
      (λp=>⟨[(0,.ptr 0 0 0),(4,.ptr 2 0 0),(5,.ptr 3 0 0),(9,.ptr 4 0 0),(58,.il 1 (bL xc)),(59,.int .i64 xc.length),(60,.int .i64 p.1)],zW A i p.2 (G p.1),5,146⟩)
      (λp=>xc.length-p.1) (0,L) [(0,0),(1,1),(2,2),(3,3),(16,4)] ⟨aAN _,hL⟩
      (aE _ rfl (sD (ib:=2) (ic:=3) (id:=16) rfl rfl rfl rfl rfl rfl rfl rfl rfl rfl (by rw[hs0];exact Cs (0,0)))
       ⟨aF,aF,aF,aF,aM (.il' (bH _)),⟨_,rfl,.int (by rw[aK])⟩,aJ,trivial⟩) ?_
     rintro⟨k,L1⟩ ⟨hk,hL1⟩;simp only at hk hL1 |-;obtain⟨x1,b1,hF1⟩:=i6 (G k);have nf1:=cP (G k);rw[hF1] at nf1;unfold zW;rw[hF1];refine Rr ?_;refine aI (λhb=>?_) (λhb=>?_)
     .have hlt:k<xc.length:=su hb
      obtain⟨x2,b2,hF2⟩:=i6 (G (k+1));have hsk:=hs k;have hsk1:=hs (k+1);have hnk:=hnx k hlt;have e1:(bL xc)[((k:Nat):Int).toNat]? = some (.int .i64 xc[k]):=by simp[bP,aAa hlt]
      obtain⟨q0,q1⟩:=hkm xc[k] (aAq hlt);generalize xc[k]=q at *;obtain⟨q,rfl⟩:=aAu q0;rw[aAc] at q1 hnk;obtain⟨x3,b3,hF3⟩:=i6 ((aZ bI).all A q);have iq:=ih q q1;refine Rr ?_;refine aB e1 ?_;refine Rr ?_;refine D3 iq hL1 rfl hF3 λL2 hL2=>?_
      refine Rt ?_;refine yQ (r:=.agg [.int .i64 x2.1,.int .i64 x2.2,.bool b2]) hsk (hav q q1) trivial hF1 hF3 (by rw[<-hnk];exact hF2) rfl ?_;refine Rt ?_;have nf2:=cP (G (k+1));rw[hF2] at nf2;exact .mk (k+1,L2) [(0,0),(1,1),(2,2),(3,3),(4,4)] ⟨by simp only;omega,hL2⟩
       (aE _ rfl (sD (ib:=2) (ic:=3) (id:=4) rfl rfl rfl rfl rfl rfl rfl rfl rfl rfl (by simp only;rw[hF2];exact o9 _ _ nf2))
        ⟨aF,aF,aF,aF,aM (.il' (bH _)),aJ,⟨_,rfl,.int (by rw[aV oq];simp)⟩,trivial⟩) (by simp only;omega)
     .have hke:k=xc.length:=by
       have:¬k<xc.length:=su hb
       omega
      (conv=>whnf);repeat(first|(refine hJ L1 _ [(0,0),(1,1),(2,2),(3,3),(4,4)] hL1 ?_;exact A9 rfl rfl rfl rfl rfl rfl rfl rfl rfl rfl rfl (by rw[hp,<-hke,hF1];exact o9 x1 b1 nf1) rfl rfl rfl rfl rfl;done)|(refine Xg ?_;conv=>whnf))
    .have k3:xk≠3:=su h
     rw[aAe k3] at hp;refine Rr ?_;refine aI (λh=>?_) (λh=>?_)
     .have k2:xk=2:=su h
      rw[aAh k2] at hp;have hs:=hcs k2;have hnx:∀(k:Nat) (hk:k<xc.length),A7 bI ⟨xk,xn,xl,xh,xw,xb,xv,xc,.mk yk yn ys yks⟩ ((aZ bI).all A) (k+1)=fX bI (A7 bI ⟨xk,xn,xl,xh,xw,xb,xv,xc,.mk yk yn ys yks⟩ ((aZ bI).all A) k) (c8 bI (some (1,1)) ((aZ bI).all A xc[k].toNat)):=λk hk=>CE bI (x:=⟨xk,xn,xl,xh,xw,xb,xv,xc,.mk yk yn ys yks⟩) (al:=((aZ bI).all A)) hk
      have hs0:A7 bI ⟨xk,xn,xl,xh,xw,xb,xv,xc,.mk yk yn ys yks⟩ ((aZ bI).all A) 0=none:=rfl;generalize A7 bI ⟨xk,xn,xl,xh,xw,xb,xv,xc,.mk yk yn ys yks⟩ ((aZ bI).all A)=G at *;refine Rt ?_;refine bA.at bE (λp:Nat × List Key=>p.1<=xc.length/\∀q∈p.2,dW q)
       (λp=>⟨[(0,.ptr 0 0 0),(4,.ptr 2 0 0),(5,.ptr 3 0 0),(8,.ip (cW ⟨xk,xn,xl,xh,xw,xb,xv,xc,.mk yk yn ys yks⟩)),(9,.ptr 4 0 0),(77,.il 1 (bL xc)),(78,.int .i64 xc.length),(79,.int .i64 p.1)],zW A i p.2 (G p.1),5,146⟩)
       (λp=>xc.length-p.1) (0,L) [(0,0),(1,1),(2,2),(3,3),(16,4)] ⟨aAN _,hL⟩
       (aE _ rfl (sD (ib:=2) (ic:=3) (id:=16) rfl rfl rfl rfl rfl rfl rfl rfl rfl rfl (by rw[hs0];exact uR))
        ⟨aF,aF,aF,aM (.ip' nN),aF,aM (.il' (bH _)),⟨_,rfl,.int (by rw[aK])⟩,aJ,trivial⟩) ?_
      rintro⟨k,L1⟩ ⟨hk,hL1⟩;simp only at hk hL1 |-;obtain⟨x1,b1,hF1⟩:=i6 (G k);have nf1:=cP (G k);rw[hF1] at nf1;unfold zW;rw[hF1];refine Rr ?_;refine aI (λhb=>?_) (λhb=>?_)
      .have hlt:k<xc.length:=su hb
       obtain⟨x2,b2,hF2⟩:=i6 (G (k+1));have hsk:=hs k;have hsk1:=hs (k+1);have hnk:=hnx k hlt;have e1:(bL xc)[((k:Nat):Int).toNat]? = some (.int .i64 xc[k]):=by simp[bP,aAa hlt]
       obtain⟨q0,q1⟩:=hkm xc[k] (aAq hlt);generalize xc[k]=q at *;obtain⟨q,rfl⟩:=aAu q0;rw[aAc] at q1 hnk;have hoq:=hav q q1;obtain⟨x3,b3,hF3⟩:=i6 ((aZ bI).all A q);obtain⟨x4,b4,hF4⟩:=i6 (c8 bI (some (1,1)) ((aZ bI).all A q));have iq:=ih q q1;refine Rr ?_;refine aB e1 ?_;refine Rr ?_;have hO:=SV (.ip (cW ⟨xk,xn,xl,xh,xw,xb,xv,xc,.mk yk yn ys yks⟩)) k;refine hO.go ?_ (.cons (.ip' nN) (.cons nn .nil)) (.agg' (.cons nn (.cons nn .nil)));refine Rt ?_;refine D3 (r:=.agg [.int .i64 x3.1,.int .i64 x3.2,.bool b3]) iq hL1 rfl hF3 λL2 hL2=>?_
       refine Rt ?_;refine yQ (r:=.agg [.int .i64 x4.1,.int .i64 x4.2,.bool b4]) (a:=some (1,1)) I7.up hoq trivial rfl hF3 hF4 rfl ?_;refine Rt ?_;refine Ds (r:=.agg [.int .i64 x2.1,.int .i64 x2.2,.bool b2]) trivial trivial trivial hF1 hF4 (by rw[<-hnk];exact hF2) rfl ?_;refine Rt ?_;have nf2:=cP (G (k+1));rw[hF2] at nf2;exact .mk (k+1,L2) [(0,0),(1,1),(2,2),(3,3),(4,4)] ⟨by simp only;omega,hL2⟩
        (aE _ rfl (sD (ib:=2) (ic:=3) (id:=4) rfl rfl rfl rfl rfl rfl rfl rfl rfl rfl (by simp only;rw[hF2];exact o9 _ _ nf2))
         ⟨aF,aF,aF,aM (.ip' nN),aF,aM (.il' (bH _)),aJ,⟨_,rfl,.int (by rw[aV oq];simp)⟩,trivial⟩) (by simp only;omega)
      .have hke:k=xc.length:=by
        have:¬k<xc.length:=su hb
        omega
       (conv=>whnf);repeat(first|(refine hJ L1 _ [(0,0),(1,1),(2,2),(3,3),(4,4)] hL1 ?_;exact A9 rfl rfl rfl rfl rfl rfl rfl rfl rfl rfl rfl (by rw[hp,<-hke,hF1];exact o9 x1 b1 nf1) rfl rfl rfl rfl rfl;done)|(refine Xg ?_;conv=>whnf))
     .have k2:xk≠2:=su h
      rw[aAe k2] at hp;refine Rr ?_;refine aI (λh=>?_) (λh=>?_)
      .have k4:xk=4:=su h
       rw[aAh k4] at hp;have hs:=hbs k4;have hb4:=hbl k4;have hnx:∀(k:Nat) (hk:k<xv.length),BM bI ⟨xk,xn,xl,xh,xw,xb,xv,xc,.mk yk yn ys yks⟩ ((aZ bI).of A) ((aZ bI).all A) (k+1)=fX bI (BM bI ⟨xk,xn,xl,xh,xw,xb,xv,xc,.mk yk yn ys yks⟩ ((aZ bI).of A) ((aZ bI).all A) k) (c8 bI ((aZ bI).of A (xc.getD 0 0).toNat xv[k]) ((aZ bI).all A (xc[k+1]'om).toNat)):=λk hk=>BJ bI (x:=⟨xk,xn,xl,xh,xw,xb,xv,xc,.mk yk yn ys yks⟩) (of:=((aZ bI).of A)) (al:=((aZ bI).all A)) hk hb4
       have hs0:BM bI ⟨xk,xn,xl,xh,xw,xb,xv,xc,.mk yk yn ys yks⟩ ((aZ bI).of A) ((aZ bI).all A) 0=none:=rfl;generalize BM bI ⟨xk,xn,xl,xh,xw,xb,xv,xc,.mk yk yn ys yks⟩ ((aZ bI).of A) ((aZ bI).all A)=G at *;refine Rt ?_;refine bA.at bE (λp:Nat × List Key=>p.1<=xv.length/\∀q∈p.2,dW q)
        (λp=>⟨[(0,.ptr 0 0 0),(4,.ptr 2 0 0),(5,.ptr 3 0 0),(8,.ip (cW ⟨xk,xn,xl,xh,xw,xb,xv,xc,.mk yk yn ys yks⟩)),(9,.ptr 4 0 0),(107,.il 4 (aU xv)),(108,.int .i64 xv.length),(109,.int .i64 p.1)],zW A i p.2 (G p.1),5,146⟩)
        (λp=>xv.length-p.1) (0,L) [(0,0),(1,1),(2,2),(3,3),(16,4)] ⟨aAN _,hL⟩
        (aE _ rfl (sD (ib:=2) (ic:=3) (id:=16) rfl rfl rfl rfl rfl rfl rfl rfl rfl rfl (by rw[hs0];exact uR))
         ⟨aF,aF,aF,aM (.ip' nN),aF,aM (.il' (bK _)),⟨_,rfl,.int (by rw[aC])⟩,aJ,trivial⟩) ?_
       rintro⟨k,L1⟩ ⟨hk,hL1⟩;simp only at hk hL1 |-;obtain⟨x1,b1,hF1⟩:=i6 (G k);have nf1:=cP (G k);rw[hF1] at nf1;unfold zW;rw[hF1];refine Rr ?_;refine aI (λhb=>?_) (λhb=>?_)
       .have hlt:k<xv.length:=su hb
        have hlt2:k+1<xc.length:=om;have hlt0:0<xc.length:=om;obtain⟨x2,b2,hF2⟩:=i6 (G (k+1));have nf2:=cP (G (k+1));rw[hF2] at nf2;have hsk:=hs k;have hsk1:=hs (k+1);have hnk:=hnx k hlt;have e1:(aU xv)[((k:Nat):Int).toNat]? = some (cO xv[k]):=by rw[aAc,gQ,aAa hlt];rfl
        have hwr:IntKind.i64.wrap ((k:Int)+1)=((k+1:Nat):Int):=by
         rw[aV oq];simp
        have e2:(bL xc)[((k+1:Nat):Int).toNat]? = some (.int .i64 xc[k+1]):=by
         rw[aAc];simp[bP,aAa hlt2]
        have e0:(bL xc)[(0:Int).toNat]? = some (.int .i64 (xc.getD 0 0)):=by
         rw[show (0:Int).toNat=0 from rfl,aAb,aAa hlt0];simp[bP,aAa hlt0]
        obtain⟨q0,q1⟩:=hkm xc[k+1] (aAq hlt2);obtain⟨p0,p1⟩:=hkm (xc.getD 0 0) (by rw[aAb,aAa hlt0];exact aAq hlt0);obtain⟨ok1,sz1,vd1⟩:=hvv _ (aAq hlt);generalize xc[k+1]=q at *;generalize xc.getD 0 0=p at *;generalize xv[k]=u at *;obtain⟨q,rfl⟩:=aAu q0;obtain⟨p,rfl⟩:=aAu p0;rw[aAc] at q1 p1;rw[aAc,aAc] at hnk;have hoq:=hav q q1;have hop:=hov p p1 u vd1;have iq:=ih q q1;have ip:=hofc p p1;obtain⟨x4,b4,hF4⟩:=i6 ((aZ bI).of A p u);obtain⟨x3,b3,hF3⟩:=i6 ((aZ bI).all A q);obtain⟨u1,u2,u3,u4⟩:=u;have hpr:True:=trivial;obtain⟨x5,b5,hF5⟩:=i6 (c8 bI ((aZ bI).of A p (.mk u1 u2 u3 u4)) ((aZ bI).all A q));refine Rr ?_;refine aB e1 ?_;refine Rr ?_;refine aB e0 ?_;refine Rr ?_;rw[hwr];refine Rr ?_;refine aB e2 ?_;refine Rr ?_;refine yN ip hL1 ok1 sz1 rfl hF4 λL2 hL2=>?_
        refine Rr ?_;repeat((first|refine dE.2 ?_|refine bQ ?_|refine aB e2 ?_|refine aB e0 ?_);refine Rr ?_)
        refine D3 iq hL2 rfl hF3 λL3 hL3=>?_
        refine Rr ?_;repeat((first|refine dE.2 ?_|refine bQ ?_|refine aB e2 ?_|refine aB e0 ?_);refine Rr ?_)
        refine yQ (r:=.agg [.int .i64 x5.1,.int .i64 x5.2,.bool b5]) hop hoq hpr hF4 hF3 hF5 rfl ?_;refine Rr ?_;repeat((first|refine dE.2 ?_|refine bQ ?_|refine aB e2 ?_|refine aB e0 ?_);refine Rr ?_)
        refine Ds (r:=.agg [.int .i64 x2.1,.int .i64 x2.2,.bool b2]) trivial trivial trivial hF1 hF5 (by rw[<-hnk];exact hF2) rfl ?_;refine Rt ?_;exact .mk (k+1,L3) [(0,0),(1,1),(2,2),(3,3),(4,4)] ⟨by simp only;omega,hL3⟩
         (aE _ rfl (sD (ib:=2) (ic:=3) (id:=4) rfl rfl rfl rfl rfl rfl rfl rfl rfl rfl (by simp only;rw[hF2];exact o9 _ _ nf2))
          ⟨aF,aF,aF,aM (.ip' nN),aF,aM (.il' (bK _)),aJ,⟨_,rfl,.int (by rw[aV oq];simp)⟩,trivial⟩) (by simp only;omega)
       .have hke:k=xv.length:=by
         have:¬k<xv.length:=su hb
         omega
        (conv=>whnf);repeat(first|(refine hJ L1 _ [(0,0),(1,1),(2,2),(3,3),(4,4)] hL1 ?_;exact A9 rfl rfl rfl rfl rfl rfl rfl rfl rfl rfl rfl (by rw[hp,<-hke,hF1];exact o9 x1 b1 nf1) rfl rfl rfl rfl rfl;done)|(refine Xg ?_;conv=>whnf))
      .have k4:xk≠4:=su h
       rw[aAe k4] at hp;(conv=>whnf);repeat(first|(refine hJ L _ [(0,0),(1,1),(2,2),(3,3),(16,4)] hL ?_;exact A9 rfl rfl rfl rfl rfl rfl rfl rfl rfl rfl rfl (by rw[hp];exact Cs (0,0)) rfl rfl rfl rfl rfl;done)|(refine Xg ?_;conv=>whnf))
  .have nf:=cP res;have hkok:dW (i,none):=trivial;generalize hk:((i,none):Key)=kk at *;cases h2:o0 a kk with
   | false=>
    have hf:=hfn a h2;have hs:=hsn a;clear hfn hfy hsn hlk hp;unfold Qc zW;generalize kK cL bI A a=E at *;obtain⟨x,b,hF⟩:∃(x:Nat × Nat) (b:Bool),cL res = .agg [.int .i64 x.1,.int .i64 x.2,.bool b]:=i6 res;rw[hF] at hs nf |-;refine Rr ?_;rw[hf];refine Rr ?_;refine iM.2 ?_;refine Rr ?_;refine aW (n':=2) (m':=fK A (a++[kk])) [(0,0),(1,1)] rfl (cM (i:=0) (j:=1) rfl rfl rfl (by rw[hs];rfl)) (.same _ (by assumption)) ⟨a++[kk],λq hq=>?_,hF.symm,rfl,rfl⟩;rcases aAt.1 hq with hq|hq
    .exact ha q hq
    .rw[aBa.1 hq];exact hkok
   | true=>
    obtain⟨j,hj,he⟩:=hfy a ha h2;clear hfn hfy hsn hlk hp;unfold Qc zW;generalize hE:kK cL bI A a=E at *;rw[aAF] at hj;obtain⟨x,b,hF⟩:∃(x:Nat × Nat) (b:Bool),cL res = .agg [.int .i64 x.1,.int .i64 x.2,.bool b]:=i6 res;rw[hF] at hj he nf |-;refine Rr ?_;rw[hj];refine Rr ?_;refine aB he ?_;refine Rr ?_;refine aN hss ?_;refine Rr ?_;refine dE.2 ?_;rw[Bm he];refine Rr ?_;exact aW (n':=2) (m':=fK A a) [(0,0),(1,1)] rfl (cM (i:=0) (j:=1) rfl rfl rfl (by rw[hE];rfl)) (.same _ nf) ⟨a,ha,hF.symm,rfl,rfl⟩
theorem UN(h:VT A):∀i,i<A.length->IU A i:=by
 intro i
 induction i using Nat.strongRecOn with
 | ind i ih=>exact λhi=>Uj h i hi λj hj=>ih j hj om
theorem Tq(A:List Nd):aH prog [] 68 [.agg [.il 12 (bJ A)]] [] 0 λr m k=>r = .ptr 0 0 0/\m=fK A []/\k=2:=by
 have nA:=aR A;refine aD bE func68 rfl ?_;generalize hN:bJ A=N at *;refine Rt ?_;subst hN;first
 | exact aW (r':=.ptr 0 0 0) (n':=2) (m':=fK A []) [(2,0),(1,1)] rfl (cM (i:=2) (j:=1) rfl rfl rfl rfl) (.ptr 2 0 0 0 rfl) ⟨rfl,rfl,rfl⟩
 | trace_state
def K1:Option (Nat × Nat)->Nat × Nat
 | none=>(0,0)
 | some l=>l
theorem UU(o:Option (Nat × Nat)):∃b,cL o = .agg [.int .i64 (K1 o).1,.int .i64 (K1 o).2,.bool b]:=by cases o<;>exact⟨_,rfl⟩
theorem SE(h:VT A):aH prog [] 67 [.agg [.il 12 (bJ A)],.ptr 0 0 0,.agg [.int .i64 0,.int .i64 0]] (fK A []) 2 λr m k=>r = .agg [.int .i64 (K1 ((aZ bI).all A (A.length-1))).1,.int .i64 (K1 ((aZ bI).all A (A.length-1))).2]/\(∃L,m=fK A L)/\k=2:=by
 have hp:=h.pos;have iA:=UN h (A.length-1) om;obtain⟨b,hb⟩:=UU ((aZ bI).all A (A.length-1));generalize K1 ((aZ bI).all A (A.length-1))=z at *;have hlen:(bJ A).length=A.length:=dL A;have hl:=h.tin.len;refine aD bE func67 rfl ?_;refine Rr ?_;rw[show ((((bJ A).length:Nat):Int) == 0)=false from beq_eq_false_iff_ne.2 om];have hw:IntKind.i64.wrap ((((bJ A).length:Nat):Int)-1)=((A.length-1:Nat):Int):=by rw[hlen,aV oq];omega
 refine Rr ?_;rw[hw];refine Rr ?_;refine D3 iA (L:=[]) sq rfl hb λL2 hL2=>?_
 refine Rt ?_;exact aW (n':=2) (m':=fK A L2) [(0,0),(1,1)] rfl (cM (i:=0) (j:=1) rfl rfl rfl rfl) (.same _ (C0 _ _)) ⟨rfl,⟨L2,rfl⟩,rfl⟩
theorem SF(h:VT A):aT prog [] 24 [.agg [.il 12 (bJ A)]] (.tup [.int .i64 (K1 ((aZ bI).all A (A.length-1))).1,.int .i64 (K1 ((aZ bI).all A (A.length-1))).2,.int .i64 0]):=by
 have hV:=Cc A (Wc h.tin);rw[h.val] at hV;have hN:=Tq A;have hW:=SE h;have hp:=h.pos;have nA:NN (.agg [.il 12 (bJ A)]):=.agg' (.cons (.il' (aR A)) .nil);have hlen:(bJ A).length=A.length:=dL A;generalize K1 ((aZ bI).all A (A.length-1))=z at *;refine aD bE func24 rfl ?_;refine Rr ?_;refine hV.go ?_ (.cons nA .nil) nn;refine Rt ?_;rw[show ((((bJ A).length:Nat):Int) == 0)=false from beq_eq_false_iff_ne.2 om];refine Rt ?_;refine aH.useN bE [] hN rfl (.same (.cons nA .nil)) trivial rfl ?_;rintro r m k ⟨rfl,rfl,rfl⟩;refine⟨[(0,9),(1,10)],.ptr 9 0 0,[(9,.row 221 8 [t8 A 10]),(10,.mapb (kK cL bI A []))],11,.ptr 0 9 0 0 rfl,⟨⟨0,_,rfl,rfl,.cons (tL rfl) .nil⟩,⟨1,_,rfl,rfl,l7 cP []⟩,trivial⟩,rfl, ?_⟩;refine Rt ?_;refine aH.useN bE [(9,0),(10,1)] hW rfl (.cons (.same _ nA) (.cons (.ptr 9 0 0 0 rfl) (.cons (.same _ (C0 _ _)) .nil))) (cM (i:=9) (j:=10) rfl rfl rfl rfl) rfl ?_;rintro r m k ⟨rfl,⟨L,rfl⟩,rfl⟩;refine⟨[(0,9),(1,10)],.agg [.int .i64 z.1,.int .i64 z.2],[(9,.row 221 8 [t8 A 10]),(10,.mapb (kK cL bI A L))],21,.same _ (C0 _ _),⟨⟨0,_,rfl,rfl,.cons (tL rfl) .nil⟩,⟨1,_,rfl,rfl,l7 cP L⟩,trivial⟩,rfl, ?_⟩;refine Rt ?_;exact aA (.tup' (.cons nn (.cons nn (.cons nn .nil)))) ⟨rfl,rfl,rfl⟩
theorem Pn:aT prog [] 24 [.agg [.il 12 (bJ [])]] (.tup [.int .i64 0,.int .i64 0,.int .i64 10]):=by
 have hV:=Cc [] ⟨sq,sq,sq,sq,sq⟩;rw[show gL []=0 from rfl] at hV;have nA:NN (.agg [.il 12 (bJ [])]):=.agg' (.cons (.il' (aR [])) .nil);refine aD bE func24 rfl ?_;refine Rr ?_;refine hV.go ?_ (.cons nA .nil) nn;refine Rt ?_;exact aA (.tup' (.cons nn (.cons nn (.cons nn .nil)))) ⟨rfl,rfl,rfl⟩
end Go.Proofs.YtidjhgajglebnaaGreatDoor
namespace Go.Ax
open Go
variable{n i B:Nat}
def dJ(n:Nat):List (List UInt8):=
 if n=0 then [] else(if n/1000000000=0 then Lib.decDigits n else zO 9 (n%1000000000))::dJ (n/1000000000)
termination_by n
decreasing_by omega
theorem pQ:dJ 0=[]:=by rw[dJ];rfl
theorem o5(h:0<n):dJ n=(if n/1000000000=0 then Lib.decDigits n else zO 9 (n%1000000000))::dJ (n/1000000000):=by
 rw[dJ,aAe om]
theorem DJ:∀(f n:Nat),n<f->0<n->(dJ n).reverse.flatten=Lib.decDigits n
 | 0,n,h,_=>om
 | f+1,n,h,h0=>by
  rw[o5 h0];rcases aAz (n/1000000000) with e|e
  .rw[aAh e,e,pQ];simp
  .rw[aAe om,aB1,aCX,DJ f (n/1000000000) om e];have:=AS 9 (n/1000000000) (n%1000000000) e (aBt _ (by decide));rw[show (10:Nat) ^ 9=1000000000 by decide,aCA] at this;rw[this];simp
theorem F0:∀(f n:Nat),n<f->∀t∈dJ n,t.length<=9
 | 0,n,h=>om
 | f+1,n,h=>by
  intro t ht;rcases aAz n with rfl|h0
  .rw[pQ] at ht;cases ht
  rw[o5 h0] at ht;rcases aAj.1 ht with rfl|ht
  .split
   .rename_i e;exact uE 9 n (by rw[show (10:Nat) ^ 9=1000000000 by decide];omega) (by decide)
   .rw[x6];omega
  .exact F0 f (n/1000000000) om t ht
theorem Iu(f n:Nat)(k:Nat):n<f->n<1000000000 ^ k->(dJ n).length<=k:=by
 induction k generalizing n f with
 | zero=>intro _ h;simp at h;subst h;rw[pQ];simp
 | succ k ih=>
  intro hf h;rcases aAz n with rfl|h0
  .rw[pQ];simp
  rw[o5 h0];have:=ih f (n/1000000000) om (by
   rw[aBF] at h;exact Nat.div_lt_of_lt_mul (by rw[aBg];exact h))
  simp;omega
def Ay(l:List Nat)(i:Int):Nat:=if i<0 then 0 else l.getD i.toNat 0
theorem Nq(l:List Nat)(i:Nat):Ay l (i:Int)=l.getD i 0:=by unfold Ay;rw[aAe om];simp
theorem Sf{l:List Nat}(hB:0<B)(h:∀d∈l,d<B)(i:Int):Ay l i<B:=by
 unfold Ay;split
 .exact hB
 .rw[aAb];cases hg:l[i.toNat]? with
  | none=>simpa using hB
  | some d=>exact h _ (aAm hg)
def MZ(r b:List Nat):Nat:=10000*(10000*Ay r b.length+Ay r ((b.length:Int)-1))+Ay r ((b.length:Int)-2)
def I5(b:List Nat):Nat:=10000*Ay b ((b.length:Int)-1)+Ay b ((b.length:Int)-2)
theorem vM{l:List Nat}{j:Int}(hj:j=(i:Int)):Ay l j=l.getD i 0:=by rw[hj,Nq]
theorem pF(B:Nat):∀(l:List Nat) (n:Nat),vl B (l.drop n)=l.getD n 0+B*vl B (l.drop (n+1))
 | [],n=>by simp[vl]
 | a::r,0=>by simp[vl]
 | a::r,n+1=>by simpa using pF B r n
theorem xK(B:Nat)(l:List Nat)(n:Nat):vl B l=vl B (l.take n)+B ^ n*vl B (l.drop n):=by
 rcases aAr n l.length with h|h
 .exact Mx B l n (aDd h)
 .rw[aAk h,aBl h];simp[vl]
theorem Ar(hB:2<=B){l:List Nat}(h:∀d∈l,d<B)(n:Nat):vl B (l.take n)<B ^ n:=by
 have:=Es hB (l.take n) λd hm=>h d (aAI hm)
 refine aB9 this (aBf om ?_);rw[aAR];omega
theorem T5{r b:List Nat}(hr:∀d∈r,d<10000)(hb:∀d∈b,d<10000)(hk:0<b.length)(htop:0<Ay b ((b.length:Int)-1))(hrl:r.length<=b.length+1) :
  0<I5 b/\MZ r b/(I5 b+1)<=vl 10000 r/vl 10000 b/\vl 10000 r/vl 10000 b<=MZ r b/I5 b:=by
 have hB:(2:Nat)<=10000:=by decide
 have hL:0<I5 b:=by unfold I5;omega
 refine⟨hL, ?_⟩;obtain⟨k,hk1⟩:∃k,b.length=k+1:=⟨b.length-1,om⟩
 cases k with
 | zero=>
  have e1:MZ r b=10000*vl 10000 r:=by
   have h0:=pF 10000 r 0;have h1:=pF 10000 r 1;have h2:r.drop (1+1)=[]:=aBl om;rw[h2] at h1;simp only[aAJ,aAF] at h0;unfold MZ;rw[hk1,vM (i:=1) rfl,vM (i:=0) om,show Ay r (((0+1:Nat):Int)-2)=0 by unfold Ay;rw[aAh om]];simp only[vl] at h1;omega
  have e2:I5 b=10000*vl 10000 b:=by
   have h0:=pF 10000 b 0;have h2:b.drop (0+1)=[]:=aBl om;rw[h2] at h0;simp only[aAJ,aAF,vl] at h0;unfold I5;rw[hk1,vM (i:=0) om,show Ay b (((0+1:Nat):Int)-2)=0 by unfold Ay;rw[aAh om]];omega
  have hv:0<vl 10000 b:=om;rw[e1,e2];refine⟨?_, ?_⟩
  .rw[aCb hv];have h1:=aCU (10000*vl 10000 r) (10000*vl 10000 b+1);generalize 10000*vl 10000 r/(10000*vl 10000 b+1)=q at *;rw[Nat.mul_add,aCI] at h1;omega
  .rw[Nat.mul_div_mul_left _ _ om];exact aAp _
 | succ k=>
  have sr:=xK 10000 r k;have sb:=xK 10000 b k;have lr:=Ar hB hr k;have lb:=Ar hB hb k;have er:vl 10000 (r.drop k)=MZ r b:=by
   rw[pF,pF,pF,aBl om];unfold MZ;rw[hk1,vM (i:=k+1+1) om,vM (i:=k+1) om,vM (i:=k) om];simp only[vl];omega
  have eb:vl 10000 (b.drop k)=I5 b:=by
   rw[pF,pF,aBl om];unfold I5;rw[hk1,vM (i:=k+1) om,vM (i:=k) om];simp only[vl];omega
  rw[er,aBg] at sr;rw[eb,aBg] at sb;refine L8 (L:=10000 ^ k) (Nat.pow_pos om) om (by rw[Nat.add_mul,aBq];omega) om (by rw[Nat.add_mul,aBq];omega) hL
def I0(r b:List Nat):Nat × Nat:=if r.length<b.length\/b.length=0 then(0,0) else(min 9999 (MZ r b/(I5 b+1)),min 9999 (MZ r b/I5 b))
theorem Qj(hB:2<=B)(hn:0<n):0<Ay (dg B n) (((dg B n).length:Int)-1):=by
 have hl:0<(dg B n).length:=by rw[p5 hB hn];simp
 obtain⟨k,hk⟩:∃k,(dg B n).length=k+1:=⟨(dg B n).length-1,om⟩
 rw[hk,vM (i:=k) om];have h1:=J2 hB n hn;rw[hk] at h1;have h2:=xK B (dg B n) k;rw[gO hB,pF,aBl om] at h2;have h3:=Ar hB (fZ hB n) k;simp only[vl,aCn,aBo,Nat.add_sub_cancel] at h1 h2;rcases aAz ((dg B n).getD k 0) with e|e
 .rw[e,aCn] at h2;omega
 .exact e
theorem Uk{x y:Nat}(hy:0<y)(hx:x<y*10000):(I0 (dg 10000 x) (dg 10000 y)).1<=x/y/\x/y<=(I0 (dg 10000 x) (dg 10000 y)).2/\(I0 (dg 10000 x) (dg 10000 y)).2<=9999:=by
 have hB:(2:Nat)<=10000:=by decide
 have hl:0<(dg 10000 y).length:=by rw[p5 hB hy];simp
 have hq:x/y<10000:=by rw[aBW hy,aBg];exact hx
 unfold I0;by_cases h:(dg 10000 x).length<(dg 10000 y).length\/(dg 10000 y).length=0
 .rw[aAh h];have hlt:x<y:=qX hB om;rw[aCj hlt];simp
 .rw[aAe h];have hrl:(dg 10000 x).length<=(dg 10000 y).length+1:=by
   refine iR hB ?_;have:=kT (n:=y) hB;rw[aBF];exact aB9 hx (aAG _ (aDd this))
  obtain⟨h1,h2,h3⟩:=T5 (fZ hB x) (fZ hB y) hl (Qj hB hy) hrl;rw[gO hB,gO hB] at h2 h3;simp only;omega
end Go.Ax
