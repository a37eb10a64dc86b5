/- A part of the proof. -/
import Derived.Test.YthempfhilcmfnaaGreatAx17
import Derived.Shelf.SlGeneric
import Derived.Shelf.SlSortCmp.Whole1
import Derived.Shelf.SlSortCmp.NoneTotal
import Derived.Ground.SlsfProg
import Derived.Test.YthempfhilcmfnaaGreatProg
import Derived.Shelf.SlSortCmp.InsertionK
import Derived.Shelf.SlSortCmp.Kit1
set_option linter.unusedVariables false
set_option linter.unusedSimpArgs false
namespace Go.Proofs.YthempfhilcmfnaaGreat
open Go Go.Ax Go.Proofs Tryz
set_option maxRecDepth 100000
set_option maxHeartbeats 16000000
def u6(n c:Int):Value:=.iface 162 (.agg #[.int .i64 n,.int .i64 c])
def Jz(a:Nat):aS:=[(0,.row 3 1 [.int .i64 a])]
def MS(A:List Nd)(p:List Int)(i a0:Nat)(x:Value):Prop:=(p.length<=a0/\x=u6 i 0)∨(a0<p.length/\(p.getD a0 0<0∨fM (aN A i)<=p.getD a0 0)/\x=u6 (-1) 11)
theorem Nh{A:List Nd}(h:VT A){p:List Int}(hp:p.length<=1000000000){i a0:Nat}(hi:i<A.length)(ha:a0<=p.length) :
  bO prog [] 128 [.int .i64 i,.ptr 0 0 0,.ip (.il 1 (aI p)),.ip (.agg [.il 12 (aR A)])] (Jz a0) 1
   (fun r m k=>a0<p.length/\0<=p.getD a0 0/\p.getD a0 0<fM (aN A i)/\r = .int .i64 (p.getD a0 0)/\m=Jz (a0+1)/\k=1)
   (fun x m k=>MS A p i a0 x/\m=Jz a0/\k=1):=by
 have hx:=dS hi;have hg:=h.node hx;have ho:=F3 (aN A i) (fun _=>hg.node.num);have en:=mL hi;have nx:=aW (aN A i);have lp:=aE p;have hpe:a0<p.length->(aI p)[(a0:Int).toNat]? = some (.int .i64 (p.getD a0 0)):=fun hq=>by
  rw[dK hq,Rn,Rm hq];rfl
 unfold MS;generalize fM (aN A i)=o at *;generalize aN A i=x at *;generalize p.getD a0 0=c at *;refine Aq bC func128 rfl ?_;((conv=>whnf);repeat(refine Yg ?_;conv=>whnf));have d1:((a0:Int) == ((aI p).length:Int))=decide (a0=p.length):=by rw[lp];by_cases e:a0=p.length<;>simp[e];omega
 rw[d1];by_cases hq:a0=p.length
 ·rw[Rs hq];((conv=>whnf);repeat(refine Yg ?_;conv=>whnf));exact bK (r':=.junk) (n':=1) (m':=Jz a0) [(0,0)] rfl ⟨⟨0,_,rfl,rfl,.same (.cons nn .nil)⟩,trivial⟩ (.junk _) ⟨.inl ⟨by omega,rfl⟩,rfl,rfl⟩
 ·rw[R4 hq];have hpe:=hpe (by omega);((conv=>whnf);repeat(refine Yg ?_;conv=>whnf));repeat((first|refine aC hpe ?_|refine aC en ?_|refine aB.2 ?_|refine aD ?_);(conv=>whnf);repeat(refine Yg ?_;conv=>whnf))
  by_cases hc0:c<0
  ·rw[Rs hc0];((conv=>whnf);repeat(refine Yg ?_;conv=>whnf));exact bK (r':=.junk) (n':=1) (m':=Jz a0) [(0,0)] rfl ⟨⟨0,_,rfl,rfl,.same (.cons nn .nil)⟩,trivial⟩ (.junk _) ⟨.inr ⟨by omega,.inl hc0,rfl⟩,rfl,rfl⟩
  ·rw[R4 hc0];((conv=>whnf);repeat(refine Yg ?_;conv=>whnf));repeat((first|refine aC hpe ?_|refine aC en ?_|refine aB.2 ?_|refine aD ?_);(conv=>whnf);repeat(refine Yg ?_;conv=>whnf))
   refine ho.goP ?_ (.cons (.ip' nx) .nil) nn;((conv=>whnf);repeat(refine Yg ?_;conv=>whnf));have d2:decide (c≥o)=decide (o<=c):=SB.2 (by omega);rw[d2];by_cases hco:o<=c
   ·rw[Rs hco];((conv=>whnf);repeat(refine Yg ?_;conv=>whnf));exact bK (r':=.junk) (n':=1) (m':=Jz a0) [(0,0)] rfl ⟨⟨0,_,rfl,rfl,.same (.cons nn .nil)⟩,trivial⟩ (.junk _) ⟨.inr ⟨by omega,.inr hco,rfl⟩,rfl,rfl⟩
   ·rw[R4 hco];((conv=>whnf);repeat(refine Yg ?_;conv=>whnf));exact bK (n':=1) (m':=Jz (a0+1)) [(0,0)] rfl ⟨⟨0,_,rfl,rfl,.cons (.one rfl rfl (.wo)) .nil⟩,trivial⟩ (.same _ nn) ⟨by omega,by omega,by omega,rfl,rfl,rfl⟩
def Pj(rid n:Nat):AV:=.agg [.int .i64 0,.int .i64 0,.str [],.nsl,.int .i64 0,.sl rid 0 n,.int .i64 0]
def Ov(A:List Nd)(p:List Int):AV:=.fn (.func 128) [] [.ptr 0 0 0,.ip (.il 1 (aI p)),.ip (.agg [.il 12 (aR A)])]
def D6(A:List Nd)(s:Bool):AV:=.fn (.func 129) [] [.ip (.agg [.il 12 (aR A)]),.ip (wk A),.ip (.bool s),.ip (.il 1 (kB (cU A))),.ptr 2 0 0,.ptr 3 0 0,.ptr 0 0 0,.ptr 1 0 0]
def pT(A:List Nd)(p:List Int)(s:Bool)(a:Nat)(L:List Sp)(rid:Nat)(rest:aS):aS:=
 (0,.row 3 1 [.int .i64 a])::(1,.row 112 7 [Pj rid L.length])::(2,.row 128 1 [Ov A p])::(3,.row 94 1 [D6 A s])::(rid,.row 138 3 (bQ L))::rest
theorem pG(A:List Nd):NN (.ip (.agg [.il 12 (aR A)])):=.ip' (.agg' (.cons (.il' (aQ A)) .nil))
theorem Cm(A:List Nd):NN (.ip (.il 1 (kB (cU A)))):=.ip' (.il' (hZ _))
theorem OI{mem:aS}{σ:List (Nat × Nat)}{A:List Nd}{p:List Int}(h:lk σ 0=some 0):Cv mem σ (Ov A p) (Ov A p):=
 .fn _ _ _ _ _ rfl rfl (by simp) (iL.cons (.ptr 0 0 0 0 h) (.cons (.same _ (dG p)) (.cons (.same _ (pG A)) .nil))).2
theorem OG{mem:aS}{σ:List (Nat × Nat)}{A:List Nd}{s:Bool}(h0:lk σ 0=some 0)(h1:lk σ 1=some 1)(h2:lk σ 2=some 2)(h3:lk σ 3=some 3):Cv mem σ (D6 A s) (D6 A s):=
 .fn _ _ _ _ _ rfl rfl (by simp) (iL.cons (.same _ (pG A)) (.cons (.same _ (qH A)) (.s (.cons (.same _ (Cm A)) (.cons (.ptr 2 2 0 0 h2) (.cons (.ptr 3 3 0 0 h3) (.cons (.ptr 0 0 0 0 h0) (.cons (.ptr 1 1 0 0 h1) .nil)))))))).2
theorem dI{mem:aS}{σ:List (Nat × Nat)}{A:List Nd}{p:List Int}{s:Bool}{a:Nat}{av:Int}{L:List Sp}{len rid rid':Nat}{xs:List AV}{rest:aS}(s0:lk σ 0=some 0)(s1:lk σ 1=some 1)(s2:lk σ 2=some 2)(s3:lk σ 3=some 3)(sr:lk σ rid=some rid')
  (m0:lk mem 0=some (.row 3 1 [.int .i64 av])) (ha:av=(a:Int)) (m1:lk mem 1=some (.row 112 7 [Pj rid len])) (hl:len=L.length) (m2:lk mem 2=some (.row 128 1 [Ov A p])) (m3:lk mem 3=some (.row 94 1 [D6 A s]))
  (mr:lk mem rid=some (.row 138 3 xs)) (hx:xs=bQ L) (hr:cH mem σ rest):cH mem σ (pT A p s a L rid' rest):=
 ⟨⟨0,_,s0,m0,.cons (.one rfl rfl (.int ha)) .nil⟩,⟨1,_,s1,m1,.cons (.agg (.s (.s (.s (.s (.s (.cons (.slE sr hl) (.s .nil)))))))) .nil⟩,
  ⟨2,_,s2,m2,.cons (.one rfl rfl (OI s0)) .nil⟩,⟨3,_,s3,m3,.cons (.one rfl rfl (OG s0 s1 s2 s3)) .nil⟩,⟨rid,_,sr,mr,.eq (dQ _) hx⟩,hr⟩
def rK(r:yO)(x:Value):Prop:=(∃n:Nat,r.stop=(n:Int)/\x=u6 n 0)∨(r.stop = -2/\x=u6 (-1) 11)
def QZ(A:List Nd)(p:List Int)(s:Bool)(r0:yO)(a0:Nat)(L:List Sp):AV->aS->Nat->Prop:=fun r m k=>r0.stop = -1/\r=bT r0.val/\∃X:List Sp,X.length<=r0.spans.length/\(s=true->X=r0.spans)/\m=pT A p s (a0+r0.used) (L++X) 5 []/\k=6
def Rg(A:List Nd)(p:List Int)(s:Bool)(r0:yO):Value->aS->Nat->Prop:=fun x m k=>rK r0 x/\∃(a:Nat) (L:List Sp),m=pT A p s a L 5 []/\k=6
def Qu(A:List Nd)(p:List Int)(s:Bool)(f:Nat):Prop:=∀(i a0:Nat) (L:List Sp),i<f->i<A.length->a0<=p.length->L.length+(a6 A p f i a0).spans.length<=4294967296 ->
 bO prog [] 129 [.int .i64 i,.ip (.agg [.il 12 (aR A)]),.ip (wk A),.ip (.bool s),.ip (.il 1 (kB (cU A))),.ptr 2 0 0,.ptr 3 0 0,.ptr 0 0 0,.ptr 1 0 0] (pT A p s a0 L 4 []) 5
  (QZ A p s (a6 A p f i a0) a0 L) (Rg A p s (a6 A p f i a0))
set_option maxHeartbeats 16000000
theorem OF{A:List Nd}(h:VT A){p:List Int}(hp:p.length<=1000000000){s:Bool}{i a0:Nat}(hi:i<A.length)(ha:a0<=p.length){mem rest:aS}{nx:Nat}{K:AV->aS->Nat->Prop}{Kp:Value->aS->Nat->Prop}
  (hm:jE [0] mem=Jz a0) (hd:eT [0] mem=rest)
  (hk:a0<p.length->0<=p.getD a0 0->p.getD a0 0<fM (aN A i)->K (.int .i64 (p.getD a0 0)) ((0,.row 3 1 [.int .i64 ((a0+1:Nat):Int)])::rest) nx)
  (hkp:∀x,MS A p i a0 x->Kp x ((0,.row 3 1 [.int .i64 ((a0:Nat):Int)])::rest) nx)
  (hc:(iK (Jz a0) && (jG [(0,0)] && (Nat.ble nx nx && (jX [0] nx (Jz a0) && oO [(0,0)] 1 nx nx [(0,0)]))))=true) :
  bO prog [] 128 [.int .i64 i,.ptr 0 0 0,.ip (.il 1 (aI p)),.ip (.agg [.il 12 (aR A)])] mem nx K Kp:=by
 refine bO.useN bC [(0,0)] (Nh h hp hi ha) hm (.s (.cons (.ptr 0 0 0 0 rfl) (.cons (.same _ (dG p)) (.cons (.same _ (pG A)) .nil)))) ⟨⟨0,_,rfl,rfl,.same (.cons nn .nil)⟩,trivial⟩ rfl ?_ ?_
 ·rintro r m k ⟨h1,h2,h3,rfl,rfl,rfl⟩;refine⟨[(0,0)],_,Jz (a0+1),nx,.same _ nn,⟨⟨0,_,rfl,rfl,.same (.cons nn .nil)⟩,trivial⟩,hc, ?_⟩;rw[show fN [(0,0)]=[0] from rfl,hd];exact hk h1 h2 h3
 ·rintro x m k ⟨h1,rfl,rfl⟩;refine⟨[(0,0)],Jz a0,nx,⟨⟨0,_,rfl,rfl,.same (.cons nn .nil)⟩,trivial⟩,hc, ?_⟩;rw[show fN [(0,0)]=[0] from rfl,hd];exact hkp x h1
theorem zB{A:List Nd}{p:List Int}{s:Bool}{f:Nat}(ih:Qu A p s f){i a0:Nat}{L:List Sp}(h1:i<f)(h2:i<A.length)(h3:a0<=p.length)(h4:L.length+(a6 A p f i a0).spans.length<=4294967296){mem rest:aS}{nx:Nat}{K:AV->aS->Nat->Prop}{Kp:Value->aS->Nat->Prop}
  (rid:Nat) (hp:jE [0,1,2,3,rid] mem=pT A p s a0 L rid []) (hd:eT [0,1,2,3,rid] mem=rest)
  (hc0:(iK (pT A p s a0 L 4 []) && (jG [(0,0),(1,1),(2,2),(3,3),(rid,4)] && oD 5 [(0,0),(1,1),(2,2),(3,3),(rid,4)]))=true)
  (l0:lk [(0,0),(1,1),(2,2),(3,3),(rid,4)] rid=some 4) (hm:lk (pT A p s a0 L rid []) rid=some (.row 138 3 (bQ L)))
  (hc:∀(a:Nat) (L':List Sp),(iK (pT A p s a L' nx []) && (jG [(0,0),(1,1),(2,2),(3,3),(5,nx)] && (Nat.ble nx (nx+1) && (jX [0,1,2,3,rid] nx (pT A p s a L' nx []) && oO [(0,0),(1,1),(2,2),(3,3),(rid,4)] 5 nx (nx+1) [(0,0),(1,1),(2,2),(3,3),(5,nx)]))))=true)
  (hk:(a6 A p f i a0).stop = -1->∀X:List Sp,X.length<=(a6 A p f i a0).spans.length->(s=true->X=(a6 A p f i a0).spans)->K (bT (a6 A p f i a0).val) (pT A p s (a0+(a6 A p f i a0).used) (L++X) nx []++rest) (nx+1))
  (hkp:∀x,rK (a6 A p f i a0) x->∀(a:Nat) (L':List Sp),Kp x (pT A p s a L' nx []++rest) (nx+1)) :
  bO prog [] 129 [.int .i64 i,.ip (.agg [.il 12 (aR A)]),.ip (wk A),.ip (.bool s),.ip (.il 1 (kB (cU A))),.ptr 2 0 0,.ptr 3 0 0,.ptr 0 0 0,.ptr 1 0 0] mem nx K Kp:=by
 refine bO.useN bC [(0,0),(1,1),(2,2),(3,3),(rid,4)] (ih i a0 L h1 h2 h3 h4) hp (.s (.cons (.same _ (pG A)) (.cons (.same _ (qH A)) (.s (.cons (.same _ (Cm A)) (.cons (.ptr 2 2 0 0 rfl) (.cons (.ptr 3 3 0 0 rfl) (.cons (.ptr 0 0 0 0 rfl) (.cons (.ptr 1 1 0 0 rfl) .nil)))))))))
  (dI (rid:=rid) rfl rfl rfl rfl l0 rfl rfl rfl rfl rfl rfl hm rfl trivial) hc0 ?_ ?_
 ·rintro r m k ⟨e1,rfl,X,hX,hXs,rfl,rfl⟩;refine⟨[(0,0),(1,1),(2,2),(3,3),(5,nx)],_,pT A p s (a0+(a6 A p f i a0).used) (L++X) nx [],nx+1,.same _ (bM _),dI (rid:=5) rfl rfl rfl rfl rfl rfl rfl rfl rfl rfl rfl rfl rfl trivial,hc _ _, ?_⟩;rw[show fN [(0,0),(1,1),(2,2),(3,3),(rid,4)]=[0,1,2,3,rid] from rfl,hd];exact hk e1 X hX hXs
 ·rintro x m k ⟨e1,a,L',rfl,rfl⟩;refine⟨[(0,0),(1,1),(2,2),(3,3),(5,nx)],pT A p s a L' nx [],nx+1,dI (rid:=5) rfl rfl rfl rfl rfl rfl rfl rfl rfl rfl rfl rfl rfl trivial,hc _ _, ?_⟩;rw[show fN [(0,0),(1,1),(2,2),(3,3),(rid,4)]=[0,1,2,3,rid] from rfl,hd];exact hkp x e1 a L'
theorem Io{A:List Nd}{p:List Int}{s:Bool}{f:Nat}(ih:Qu A p s f){i a0:Nat}{L:List Sp}(h1:i<f)(h2:i<A.length)(h3:a0<=p.length)(h4:L.length+(a6 A p f i a0).spans.length<=4294967296){mem m1 rest:aS}{nx:Nat}{K:AV->aS->Nat->Prop}{Kp:Value->aS->Nat->Prop}
  (rid:Nat) (hp:jE [0,1,2,3,rid] mem=m1) (hM:cH m1 [(0,0),(1,1),(2,2),(3,3),(rid,4)] (pT A p s a0 L 4 [])) (hd:eT [0,1,2,3,rid] mem=rest)
  (hc0:(iK (pT A p s a0 L 4 []) && (jG [(0,0),(1,1),(2,2),(3,3),(rid,4)] && oD 5 [(0,0),(1,1),(2,2),(3,3),(rid,4)]))=true)
  (hc:∀(a:Nat) (L':List Sp),(iK (pT A p s a L' nx []) && (jG [(0,0),(1,1),(2,2),(3,3),(5,nx)] && (Nat.ble nx (nx+1) && (jX [0,1,2,3,rid] nx (pT A p s a L' nx []) && oO [(0,0),(1,1),(2,2),(3,3),(rid,4)] 5 nx (nx+1) [(0,0),(1,1),(2,2),(3,3),(5,nx)]))))=true)
  (hk:(a6 A p f i a0).stop = -1->∀X:List Sp,X.length<=(a6 A p f i a0).spans.length->(s=true->X=(a6 A p f i a0).spans)->K (bT (a6 A p f i a0).val) (pT A p s (a0+(a6 A p f i a0).used) (L++X) nx []++rest) (nx+1))
  (hkp:∀x,rK (a6 A p f i a0) x->∀(a:Nat) (L':List Sp),Kp x (pT A p s a L' nx []++rest) (nx+1)) :
  bO prog [] 129 [.int .i64 i,.ip (.agg [.il 12 (aR A)]),.ip (wk A),.ip (.bool s),.ip (.il 1 (kB (cU A))),.ptr 2 0 0,.ptr 3 0 0,.ptr 0 0 0,.ptr 1 0 0] mem nx K Kp:=by
 refine bO.useN bC [(0,0),(1,1),(2,2),(3,3),(rid,4)] (ih i a0 L h1 h2 h3 h4) hp (.s (.cons (.same _ (pG A)) (.cons (.same _ (qH A)) (.s (.cons (.same _ (Cm A)) (.cons (.ptr 2 2 0 0 rfl) (.cons (.ptr 3 3 0 0 rfl) (.cons (.ptr 0 0 0 0 rfl) (.cons (.ptr 1 1 0 0 rfl) .nil)))))))))
  hM hc0 ?_ ?_
 ·rintro r m k ⟨e1,rfl,X,hX,hXs,rfl,rfl⟩;refine⟨[(0,0),(1,1),(2,2),(3,3),(5,nx)],_,pT A p s (a0+(a6 A p f i a0).used) (L++X) nx [],nx+1,.same _ (bM _),dI (rid:=5) rfl rfl rfl rfl rfl rfl rfl rfl rfl rfl rfl rfl rfl trivial,hc _ _, ?_⟩;rw[show fN [(0,0),(1,1),(2,2),(3,3),(rid,4)]=[0,1,2,3,rid] from rfl,hd];exact hk e1 X hX hXs
 ·rintro x m k ⟨e1,a,L',rfl,rfl⟩;refine⟨[(0,0),(1,1),(2,2),(3,3),(5,nx)],pT A p s a L' nx [],nx+1,dI (rid:=5) rfl rfl rfl rfl rfl rfl rfl rfl rfl rfl rfl rfl rfl trivial,hc _ _, ?_⟩;rw[show fN [(0,0),(1,1),(2,2),(3,3),(rid,4)]=[0,1,2,3,rid] from rfl,hd];exact hkp x e1 a L'
set_option maxHeartbeats 16000000
theorem HD{A:List Nd}(hv:cP A=0){i:Nat}{x:Nd}(hx:A[i]? = some x)(h:x.kind=0∨x.kind=1):x.kids=[]:=by
 refine R6 ?_;have hv0:b9 [] A=0:=by
  unfold cP at hv;split at hv
  ·omega
  ·exact hv
 have hf:=g5 (nY A hv0 i x hx);unfold cV iI at hf;simp only[Rr,Sv,SP] at hf;have:=hf.1.1.1.1.1.1.2;omega
theorem GU{mem:aS}{id i sz sz':Nat}{t:TypeId}{xs:List AV}{x:AV}(h:lk mem id=some (.row t sz' xs))(hx:xs[i]? = some x)(hc:Nat.beq x.cells.length sz=false):s7 mem id i 0 sz=false:=by
 unfold s7;simp only[h,hx,hc]
theorem jP{A:List Nd}{p:List Int}{s:Bool}{r0:yO}{x:Value}{mem:aS}{n:Nat}{a:Nat}{av:Int}{L:List Sp}{len rid:Nat}{xs:List AV}(hw:rK r0 x)
  (m0:lk mem 0=some (.row 3 1 [.int .i64 av])) (ha:av=(a:Int)) (m1:lk mem 1=some (.row 112 7 [Pj rid len])) (hl:len=L.length) (m2:lk mem 2=some (.row 128 1 [Ov A p])) (m3:lk mem 3=some (.row 94 1 [D6 A s]))
  (mr:lk mem rid=some (.row 138 3 xs)) (hx:xs=bQ L) (l:(jG [(0,0),(1,1),(2,2),(3,3),(rid,5)] && (iK (pT A p s a L 5 []) && (x9 5 6 [(0,0),(1,1),(2,2),(3,3),(rid,5)] && Nat.ble 5 6)))=true) (l0:lk [(0,0),(1,1),(2,2),(3,3),(rid,5)] rid=some 5) :
  lE 5 (fun _ m n=>Rg A p s r0 x m n) .junk mem n:=
 bK (r':=.junk) (n':=6) (m':=pT A p s a L 5 []) [(0,0),(1,1),(2,2),(3,3),(rid,5)] l (dI (rid:=rid) rfl rfl rfl rfl l0 m0 ha m1 hl m2 m3 mr hx trivial) (.junk _) ⟨hw,a,L,rfl,rfl⟩
theorem Mo{A:List Nd}(h:VT A){p:List Int}(hp:p.length<=1000000000)(s:Bool)(f:Nat)(ih:Qu A p s f):Qu A p s (f+1):=by
 intro i a0 L hif hi ha hC;have hx:=dS hi;have hg:=h.node hx;have hkm:=fun(k:Int) (hk:k∈(aN A i).kids)=>fF h hx hk
 have hkI:=fun(c:Int) (h0:0<=c) (h1:c<(aN A i).kids.length)=>h.kidI hx h0 h1
 have hbi:=fun h4=>h.bind hx h4
 have hf0:=fun h0=>BP h p (f+1) i a0 hif hi h0
 have hCh:=FC hi;have hFi:=PM hi;have hne:=mL hi;have hch:=fun(mem rest:aS) (nx:Nat) (K:AV->aS->Nat->Prop) (Kp:Value->aS->Nat->Prop)=>OF h hp (s:=s) hi ha (mem:=mem) (rest:=rest) (nx:=nx) (K:=K) (Kp:=Kp)
 have hln:=h.len hx;have hpl:=h.pln hx;have hnn:=aW (aN A i);have hkl:=h.tin.klen _ (R3 hx);have hfv:=fun(v:bB)=>N5 (aN A i) v (by have:=h.tin.vlen _ (R3 hx);omega) hg.val hg.srt
 have hmd:=fun(ks:List bB)=>It (aN A i) ks
 have hmem:=fun(k a:Nat) (hk:k<i)=>mH h p f k a (by omega) (by omega)
 have hbd:∀(k q:Nat),q<=p.length->q+(a6 A p f k q).used<=p.length:=fun k q hq=>(tH (A:=A) p f k q hq).1
 have hkind:=hg.node.kind;have hnum:=fun(e:(aN A i).kind=1)=>cA hg.node.num
 have hsrt:=hg.srt;have hl0:=(h.lens0 (i:Int)).1;have hk0:(aN A i).kind=0->(aN A i).kids=[]:=fun e=>HD h.val hx (.inl e)
 have hon:fM (aN A i)=if (aN A i).kind=1 then(aN A i).hi-(aN A i).lo+1 else(aN A i).kids.length:=rfl
 have hpe:(kB (cU A))[((i:Nat):Int).toNat]? = some (.bool (Jy (cU A) i)):=by
  have hl:i<(cU A).length:=by rw[iP];exact hi
  rw[Rq,tR,Rm hl];unfold Jy;rw[Rn,Rm hl];rfl
 have hwc:∀x,MS A p i a0 x->((p.length<=a0/\x=u6 i 0)∨(a0<p.length/\(p.getD a0 0<0∨fM (aN A i)<=p.getD a0 0)/\x=u6 (-1) 11)):=fun x hx=>hx
 obtain⟨F,hF⟩:∃F,F=a6 A p (f+1) i a0:=⟨_,rfl⟩
 rw[←hF] at hC hf0 ⊢;simp only[a6] at hF;have hp0:Jy (cU A) i=wQ (aX A) (cU A) (aN A i):=hpl;have hpN:wQ (aX A) (cU A) (aN A i)=(decide (eU (aX A) (aN A i)<=0) && (decide ((aN A i).kind≠3) || decide ((aN A i).kids.length=0)) && (aN A i).kids.all fun k=>(cU A).getD k.toNat false):=rfl;rw[hpN,←hln] at hp0;have hlk0:(aN A i).kind=0->Go.Ax.d7 (aX A) i=0:=fun e=>by rw[hln];unfold eU;rw[Rx e]
 generalize Jy (cU A) i=pb at *;generalize Go.Ax.d7 (aX A) i=ln at *;generalize fM (aN A i)=o at *;clear hln hpl hpN hg hx;generalize aN A i=x at *;obtain⟨kind,name,lo,hi',ws,lbs,vals,kids,⟨vk,vn,vs,vks⟩⟩:=x;simp only at hkm hkI hbi hkl hF hfv hmd hkind hnum hsrt hk0 hon hp0 hlk0;refine Aq bC func129 rfl ?_;((conv=>whnf);repeat(refine Yg ?_;conv=>whnf));repeat((first|refine aC hne ?_|refine aB.2 ?_|refine aD ?_);(conv=>whnf);repeat(refine Yg ?_;conv=>whnf))
 refine hCh.goP ?_ (.cons (eM A) (.cons nn .nil)) nn;((conv=>whnf);repeat(refine Yg ?_;conv=>whnf));by_cases hl:ln=0
 ·subst hl;have hf0:=hf0 rfl;((conv=>whnf);repeat(refine Yg ?_;conv=>whnf));cases s with
  | false=>
   generalize CX (cS A) i=v at *;have hvn:=bM v;obtain⟨v1,v2,v3,v4⟩:=v;obtain⟨e1,e2,e3,e4⟩:=hf0;((conv=>whnf);repeat(refine Yg ?_;conv=>whnf));refine hFi.goP ?_ (.cons (eM A) (.cons nn .nil)) hvn;((conv=>whnf);repeat(refine Yg ?_;conv=>whnf));exact bK (n':=6) (m':=pT A p false (a0+F.used) (L++[]) 5 []) [(0,0),(1,1),(2,2),(3,3),(4,5)] rfl (dI (rid:=4) rfl rfl rfl rfl rfl rfl (by rw[e2];rfl) rfl (by simp) rfl rfl rfl (by simp) trivial) (.same _ hvn) ⟨e3,by rw[e1];rfl,[],TC _,(fun e=>by cases e),rfl,rfl⟩
  | true=>
   have hpe2:=hpe;cases pb with
   | true=>
    generalize CX (cS A) i=v at *;have hvn:=bM v;obtain⟨v1,v2,v3,v4⟩:=v;obtain⟨e1,e2,e3,e4⟩:=hf0;((conv=>whnf);repeat(refine Yg ?_;conv=>whnf));repeat((first|refine aC hpe ?_|refine aB.2 ?_|refine aD ?_);(conv=>whnf);repeat(refine Yg ?_;conv=>whnf))
    refine hFi.goP ?_ (.cons (eM A) (.cons nn .nil)) hvn;((conv=>whnf);repeat(refine Yg ?_;conv=>whnf));exact bK (n':=6) (m':=pT A p true (a0+F.used) (L++[]) 5 []) [(0,0),(1,1),(2,2),(3,3),(4,5)] rfl (dI (rid:=4) rfl rfl rfl rfl rfl rfl (by rw[e2];rfl) rfl (by simp) rfl rfl rfl (by simp) trivial) (.same _ hvn) ⟨e3,by rw[e1];rfl,[],TC _,(fun _=>(e4 rfl).symm),rfl,rfl⟩
   | false=>
    have k0:kind≠0:=fun e=>by
     rw[hk0 e,e] at hp0;simp at hp0
    ((conv=>whnf);repeat(refine Yg ?_;conv=>whnf));repeat((first|refine aC hpe ?_|refine aB.2 ?_|refine aD ?_);(conv=>whnf);repeat(refine Yg ?_;conv=>whnf))
    by_cases k1:kind=1
    ·subst k1;rw[Rp k0,Rp (by omega),Rp (by omega)] at hF;rw[Rx rfl] at hon;have hn:=hnum rfl;((conv=>whnf);repeat(refine Yg ?_;conv=>whnf));repeat((first|refine aB.2 ?_|refine aD ?_);(conv=>whnf);repeat(refine Yg ?_;conv=>whnf))
     refine hch _ _ _ _ _ rfl rfl (fun c1 c2 c3=>?_) (fun x hx=>?_) rfl
     ·have hw:IntKind.i64.wrap (lo+p.getD a0 0)=lo+p.getD a0 0:=bY ⟨by have:=hn.1;omega,by omega⟩;rw[Rp (by omega),Rp (by omega),Rx rfl] at hF;generalize p.getD a0 0=c at *;((conv=>whnf);repeat(refine Yg ?_;conv=>whnf));repeat((first|refine aB.2 ?_|refine aD ?_);(conv=>whnf);repeat(refine Yg ?_;conv=>whnf))
      rw[hw];have hus:F.used=1:=by rw[hF]
      exact bK (n':=6) (m':=pT A p true (a0+F.used) (L++[]) 5 []) [(0,0),(1,1),(2,2),(3,3),(4,5)] rfl (dI (rid:=4) rfl rfl rfl rfl rfl rfl (by rw[hus]) rfl (by simp) rfl rfl rfl (by simp) trivial) (.agg' (.s (.s (.s (.cons (.nil 4) .nil))))) ⟨by rw[hF],by rw[hF];rfl,[],TC _,fun _=>by rw[hF],rfl,rfl⟩
     ·have hws:rK F x:=by
       rcases hwc x hx with⟨q1,q2⟩|⟨q1,q2,q3⟩
       ·rw[Rx q1] at hF;exact .inl ⟨i,by rw[hF],q2⟩
       ·rw[Rp (by omega),Rx q2] at hF;exact .inr ⟨by rw[hF],q3⟩
      ((conv=>whnf);repeat(refine Yg ?_;conv=>whnf));exact jP (rid:=4) hws rfl rfl rfl rfl rfl rfl rfl rfl rfl rfl
    ·rw[Rp k1] at hon;rw[show (kind == 1)=false by simpa using k1];((conv=>whnf);repeat(refine Yg ?_;conv=>whnf));by_cases k2:kind=2
     ·subst k2;rw[Rp k0,Rp (by omega),Rp (by omega)] at hF;((conv=>whnf);repeat(refine Yg ?_;conv=>whnf));repeat((first|refine aB.2 ?_|refine aD ?_);(conv=>whnf);repeat(refine Yg ?_;conv=>whnf))
      refine hch _ _ _ _ _ rfl rfl (fun c1 c2 c3=>?_) (fun x hx=>?_) rfl
      ·rw[Rp (by omega),Rp (by omega),Rp k1] at hF;obtain⟨d1,d2,d3⟩:=hkI (p.getD a0 0) c2 (by omega);generalize p.getD a0 0=c at *;generalize bE ⟨2,name,lo,hi',ws,lbs,vals,kids,.mk vk vn vs vks⟩ c=q1 at *;have e1:(aI kids)[c.toNat]? = some (.int .i64 (q1:Int)):=by rw[bG,d3];rfl
       have hC1:L.length+(a6 A p f q1 (a0+1)).spans.length<=4294967296:=by rw[hF] at hC;exact hC
       ((conv=>whnf);repeat(refine Yg ?_;conv=>whnf));repeat((first|refine aC e1 ?_|refine aB.2 ?_|refine aD ?_);(conv=>whnf);repeat(refine Yg ?_;conv=>whnf))
       rw[Rs (show 0<=c by omega)];((conv=>whnf);repeat(refine Yg ?_;conv=>whnf));repeat((first|refine aC e1 ?_|refine aB.2 ?_|refine aD ?_);(conv=>whnf);repeat(refine Yg ?_;conv=>whnf))
       refine zB ih (L:=L) (by omega) (by omega) (by omega) hC1 4 rfl rfl rfl rfl rfl (fun _ _=>rfl) (fun f1 X hX hXs=>?_) (fun x hx a L'=>?_)
       ·generalize a6 A p f q1 (a0+1)=R1 at *;obtain⟨⟨u1,u2,u3,u4⟩,ru,rst,rsp⟩:=R1;simp only at hF f1 hX hXs ⊢;((conv=>whnf);repeat(refine Yg ?_;conv=>whnf));repeat((first|refine aC e1 ?_|refine aB.2 ?_|refine aD ?_);(conv=>whnf);repeat(refine Yg ?_;conv=>whnf))
        have hus:F.used=ru+1:=by rw[hF]
        have hss:F.spans=rsp:=by rw[hF]
        exact bK (n':=6) (m':=pT A p true (a0+F.used) (L++X) 5 []) [(0,0),(1,1),(2,2),(3,3),(18,5)] rfl (dI (rid:=18) rfl rfl rfl rfl rfl rfl (by rw[hus];omega) rfl rfl rfl rfl rfl rfl trivial) (.same _ (.agg' (.cons nn (.cons nn (.cons nn (.cons (.il' (aV _)) .nil)))))) ⟨by rw[hF];exact f1,by rw[hF];rfl,X,by rw[hss];exact hX,fun e=>by rw[hss];first|exact hXs e|exact hXs trivial,rfl,rfl⟩
       ·have hws:rK F x:=by rw[hF];exact hx
        ((conv=>whnf);repeat(refine Yg ?_;conv=>whnf));exact jP (rid:=18) hws rfl rfl rfl rfl rfl rfl rfl rfl rfl rfl
      ·have hws:rK F x:=by
        rcases hwc x hx with⟨q1,q2⟩|⟨q1,q2,q3⟩
        ·rw[Rx q1] at hF;exact .inl ⟨i,by rw[hF],q2⟩
        ·rw[Rp (by omega),Rx q2] at hF;exact .inr ⟨by rw[hF],q3⟩
       ((conv=>whnf);repeat(refine Yg ?_;conv=>whnf));exact jP (rid:=4) hws rfl rfl rfl rfl rfl rfl rfl rfl rfl rfl
     ·rw[show (kind == 2)=false by simpa using k2];((conv=>whnf);repeat(refine Yg ?_;conv=>whnf));by_cases k4:kind=4
      ·subst k4;rw[Rp k0,Rp (by omega),Rx rfl] at hF;have hb4:=(hbi rfl).1;have hb5:=(hbi rfl).2.1;obtain⟨c1,c2,c3⟩:=hkI 0 (by omega) (by omega);generalize hq0:bE ⟨4,name,lo,hi',ws,lbs,vals,kids,.mk vk vn vs vks⟩ 0=q0 at *;have e0:(aI kids)[(0:Int).toNat]? = some (.int .i64 (q0:Int)):=by rw[bG,c3];rfl
       have hme:=fun hs=>(hmem q0 a0 c1 hs).2 (hbi rfl).2.2.1
       rw[(hbi rfl).2.2.2] at hme;have hbd0:=hbd q0 a0 ha;have hC0:L.length+(a6 A p f q0 a0).spans.length<=4294967296:=by
        rw[hF] at hC;split at hC
        ·simp only[Ro] at hC;omega
        ·exact hC
       ((conv=>whnf);repeat(refine Yg ?_;conv=>whnf));repeat((first|refine aC e0 ?_|refine aB.2 ?_|refine aD ?_);(conv=>whnf);repeat(refine Yg ?_;conv=>whnf))
       refine zB ih (L:=L) (by omega) (by omega) ha hC0 4 rfl rfl rfl rfl rfl (fun _ _=>rfl) (fun f1 X hX hXs=>?_) (fun x hx a L'=>?_)
       ·have hme:=hme f1;rw[Rx f1] at hF;generalize a6 A p f q0 a0=R0 at *;obtain⟨v,u,st,sp⟩:=R0;simp only at hF f1 hX hXs hme hbd0 ⊢;obtain⟨w,fq,w1,w2⟩:=iZ hsrt hme;have hfv1:=hfv v;have hvn:=bM v;rw[fq] at hF hfv1;simp only at hF hfv1;obtain⟨d1,d2,d3⟩:=hkI ((w+1:Nat):Int) (by omega) (by omega);generalize bE ⟨4,name,lo,hi',ws,lbs,vals,kids,.mk vk vn vs vks⟩ ((w+1:Nat):Int)=q1 at *;have e1:(aI kids)[((w+1:Nat):Int).toNat]? = some (.int .i64 (q1:Int)):=by rw[bG,d3];rfl
        have hC1:(L++X).length+(a6 A p f q1 (a0+u)).spans.length<=4294967296:=by
         rw[hF] at hC;simp only[Ro] at hC ⊢;omega
        obtain⟨v1,v2,v3,v4⟩:=v;((conv=>whnf);repeat(refine Yg ?_;conv=>whnf));repeat((first|refine aC e0 ?_|refine aB.2 ?_|refine aD ?_);(conv=>whnf);repeat(refine Yg ?_;conv=>whnf))
        refine hfv1.goP ?_ (.cons (.ip' hnn) (.cons hvn .nil)) nn;((conv=>whnf);repeat(refine Yg ?_;conv=>whnf));repeat((first|refine aC e0 ?_|refine aC e1 ?_|refine aB.2 ?_|refine aD ?_);(conv=>whnf);repeat(refine Yg ?_;conv=>whnf))
        refine zB ih (L:=L++X) (by omega) (by omega) hbd0 hC1 25 rfl rfl rfl rfl rfl (fun _ _=>rfl) (fun f2 Y hY hYs=>?_) (fun x hx a L'=>?_)
        ·have hwu:(u:Int)+0=u:=by omega
         generalize a6 A p f q1 (a0+u)=R1 at *;obtain⟨⟨u1,u2,u3,u4⟩,ru,rst,rsp⟩:=R1;simp only at hF f2 hY hYs ⊢;((conv=>whnf);repeat(refine Yg ?_;conv=>whnf));repeat((first|refine aC e0 ?_|refine aC e1 ?_|refine aB.2 ?_|refine aD ?_);(conv=>whnf);repeat(refine Yg ?_;conv=>whnf))
         have hus:F.used=u+ru:=by rw[hF]
         have hss:F.spans=sp++rsp:=by rw[hF]
         exact bK (n':=6) (m':=pT A p true (a0+F.used) (L++(X++Y)) 5 []) [(0,0),(1,1),(2,2),(3,3),(26,5)] rfl (dI (rid:=26) rfl rfl rfl rfl rfl rfl (by rw[hus];omega) rfl (by simp) rfl rfl rfl (by simp) trivial) (.same _ (.agg' (.cons nn (.cons nn (.cons nn (.cons (.il' (aV _)) .nil)))))) ⟨by rw[hF];exact f2,by rw[hF];rfl,X++Y,by rw[hss,Ro,Ro];omega,fun e=>by rw[hss];first|rw[hXs e,hYs e]|rw[hXs trivial,hYs trivial],rfl,rfl⟩
        ·have hws:rK F x:=by rw[hF];exact hx
         ((conv=>whnf);repeat(refine Yg ?_;conv=>whnf));exact jP (rid:=26) hws rfl rfl rfl rfl rfl rfl rfl rfl rfl rfl
       ·have hws:rK F x:=by
         rw[Rp (show ¬(a6 A p f q0 a0).stop = -1 from fun e=>by
          rcases hx with⟨n,h1,-⟩|⟨h1,-⟩<;>omega)] at hF
         rw[hF];exact hx
        ((conv=>whnf);repeat(refine Yg ?_;conv=>whnf));exact jP (rid:=25) hws rfl rfl rfl rfl rfl rfl rfl rfl rfl rfl
      ·have k3:kind=3:=by omega
       subst k3;rw[Rp k0,Rx rfl] at hF;rw[show ((3:Int) == 4)=false by decide];have lkk:=aE kids;obtain⟨P,hP⟩:∃P:Nat->Pt,P=fun j=>bR (fun k q=>a6 A p f k q) a0 (kids.take j) ⟨0,[],[],-1⟩:=⟨_,rfl⟩
       have hP0:P 0=⟨0,[],[],-1⟩:=by rw[hP];rfl
       have hPe:bR (fun k q=>a6 A p f k q) a0 kids ⟨0,[],[],-1⟩=P kids.length:=by rw[hP];simp
       have hPn:∀j (hj:j<kids.length),(P j).stop = -1->P (j+1)=Ix (fun k q=>a6 A p f k q) a0 kids[j] (P j):=fun j hj hs=>by
        rw[hP] at hs ⊢;exact mI hj rfl hs
       have hPs:∀j (hj:j<kids.length),(P j).stop = -1->(P (j+1)).stop≠-1->P kids.length=P (j+1):=fun j hj hs hs2=>by
        rw[←hPe];rw[hP] at hs hs2 ⊢;exact qR hj rfl hs hs2
       have hPl:∀j (hj:j<kids.length),(P j).stop = -1->(P j).spans.length+1+(a6 A p f kids[j].toNat (a0+(P j).used)).spans.length<=F.spans.length:=fun j hj hs=>by
        rw[hF];simp only[Ca];rw[hP] at hs ⊢;exact wH (rd:=fun k q=>a6 A p f k q) hj rfl hs
       rw[hPe] at hF;have hFst:F.stop=(P kids.length).stop:=by rw[hF];rfl
       have hFus:F.used=(P kids.length).used:=by rw[hF];rfl
       have hFss:F.spans=(P kids.length).spans:=by rw[hF];rfl
       have hFv:(P kids.length).stop = -1->F.val=dJ name (P kids.length).vals:=fun e=>by rw[hF];simp only[Ca];rw[Rx e]
       clear hPe hP hF hbi hfv hmem hnum;((conv=>whnf);repeat(refine Yg ?_;conv=>whnf));refine a7.ph 60 4 ?_;refine a7.at bC (fun z:Nat × List Sp=>z.1<=kids.length/\(P z.1).stop = -1/\a0+(P z.1).used<=p.length/\(P z.1).vals.length=z.1/\z.2.length<=(P z.1).spans.length/\(true=true->z.2=(P z.1).spans))
        (fun z=>⟨[(6,.ptr 3 0 0),(7,.ptr 0 0 0),(8,.ptr 1 0 0),(10,.ptr 6 0 0),(11,.ip (bU ⟨3,name,lo,hi',ws,lbs,vals,kids,.mk vk vn vs vks⟩)),(12,.int .i64 a0),(13,.sl 7 0 (P z.1).vals.length),(90,.il 1 (aI kids)),(91,.int .i64 kids.length),(92,.int .i64 z.1)],
         pT A p true (a0+(P z.1).used) (L++z.2) 5 [(6,.row 60 4 [bT vZ]),(7,.row 60 4 (aT (P z.1).vals))],8,124⟩)
        (fun z=>kids.length-z.1) (0,[]) [(0,0),(1,1),(2,2),(3,3),(4,5),(5,6),(6,7)] ⟨by simp only;omega,by rw[hP0],by rw[hP0];simp only;omega,by rw[hP0];rfl,by simp,by rw[hP0];intro _;rfl⟩
        (aJ _ rfl (dI (rid:=4) rfl rfl rfl rfl rfl rfl (by rw[hP0];simp) rfl (by simp) rfl rfl rfl (by simp) ⟨⟨5,_,rfl,rfl,.cons (sX 0 0 []) .nil⟩,⟨6,_,rfl,rfl,by rw[hP0];exact .nil⟩,trivial⟩)
         ⟨⟨_,rfl,.ptr 3 3 0 0 rfl⟩,⟨_,rfl,.ptr 0 0 0 0 rfl⟩,⟨_,rfl,.ptr 1 1 0 0 rfl⟩,⟨_,rfl,.ptr 5 6 0 0 rfl⟩,⟨_,rfl,.same _ (.ip' hnn)⟩,aH,⟨_,rfl,by rw[hP0];exact .nslk 6 7 _ rfl rfl⟩,⟨_,rfl,.same _ (.il' (aG _))⟩,⟨_,rfl,.int (by rw[lkk])⟩,aH,trivial⟩) ?_
       rintro⟨j,Y⟩ ⟨hj,hst,hus,hvl,hYl,hYs⟩;simp only at hj hst hus hvl hYl hYs ⊢;have dj:decide ((j:Int)<(kids.length:Int))=decide (j<kids.length):=SB.2 (by omega);have ls:=c8 (L++Y);have lv:=aF (P j).vals;by_cases hjl:j<kids.length
       ·have hnx:=hPn j hjl hst;have hend:=hPs j hjl hst;have hln:=hPl j hjl hst;have ek:=dK hjl;obtain⟨m0,m1⟩:=hkm kids[j] (SI hjl);generalize kids[j]=kz at *;obtain⟨k,rfl⟩:=R7 m0;simp only[Rq] at m1 hnx hln;unfold Ix at hnx;simp only[Rq] at hnx;have hb:=hbd k (a0+(P j).used) hus;generalize hpj:P j=pj at *;obtain⟨us,vls,sps,st⟩:=pj;simp only at hst hus hvl hnx hln hb ls lv hYl hYs ⊢;subst hst;have hC1:(L++Y++[(a0,a0+us,a0+us)]).length+(a6 A p f k (a0+us)).spans.length<=4294967296:=by
         simp only[Ro,SQ];omega
        ((conv=>whnf);repeat(refine Yg ?_;conv=>whnf));rw[dj,Rs hjl];((conv=>whnf);repeat(refine Yg ?_;conv=>whnf));repeat((first|refine aC ek ?_|refine aB.2 ?_|refine aD ?_);(conv=>whnf);repeat(refine Yg ?_;conv=>whnf))
        refine aK (bP rfl rfl (by rw[ls]) (by simp;omega)) ?_;((conv=>whnf);repeat(refine Yg ?_;conv=>whnf));have hse:bQ (L++Y)++List.take 1 (List.drop 0 [AV.agg [.int .i64 (a0:Int),.int .i64 ((a0+us:Nat):Int),.int .i64 ((a0+us:Nat):Int)]])=bQ (L++Y++[(a0,a0+us,a0+us)]):=by rw[gL (L++Y)];rfl
        refine Io ih (L:=L++Y++[(a0,a0+us,a0+us)]) (by omega) (by omega) hus hC1 9 rfl (dI (rid:=9) rfl rfl rfl rfl rfl rfl rfl rfl (by simp;omega) rfl rfl rfl hse trivial) rfl rfl (fun _ _=>rfl) (fun f1 X hX hXs=>?_) (fun x hx a L'=>?_)
        ·generalize a6 A p f k (a0+us)=R1 at *;obtain⟨⟨v1,v2,v3,v4⟩,ru,rst,rsp⟩:=R1;simp only at hnx f1 hX hXs hln hb ⊢;subst f1;((conv=>whnf);repeat(refine Yg ?_;conv=>whnf));refine aK (bP rfl rfl (by rw[lv]) (by simp;omega)) ?_;((conv=>whnf);repeat(refine Yg ?_;conv=>whnf));have gpl:Nat.blt (((L++Y).length:Nat):Int).toNat (L++Y++[(a0,a0+us,a0+us)]++X).length=true:=Ru (by simp only[Ro,SQ,Rq];omega);have epl:(bQ (L++Y++[(a0,a0+us,a0+us)]++X))[0+(((L++Y).length:Nat):Int).toNat]? = some (.agg [.int .i64 (a0:Int),.int .i64 ((a0+us:Nat):Int),.int .i64 ((a0+us:Nat):Int)]):=by
          rw[SF,Rq,kJ,SG (by simp),SK (R2 _),Tu];rfl
         have hset:(bQ (L++Y++[(a0,a0+us,a0+us)]++X)).set (0+(((L++Y).length:Nat):Int).toNat) (.agg [.int .i64 (a0:Int),.int .i64 ((a0+us:Nat):Int),.int .i64 ((a0+us+ru:Nat):Int)])=bQ (L++(Y++(a0,a0+us,a0+us+ru)::X)):=by
          rw[SF,Rq,gL,gL (L++Y),SC,TW _ _ (by rw[ls];exact R2 _),ls,Tu,←SC L,gL (L++Y)];rfl
         repeat((first|refine aK gpl ?_|refine aC epl ?_|refine aB.2 ?_|refine aD ?_);(conv=>whnf);repeat(refine Yg ?_;conv=>whnf))
         generalize hae:s7 _ _ _ _ _=b;have hbf:b=false:=by rw[←hae];exact GU rfl epl rfl
         subst hbf;clear hae;((conv=>whnf);repeat(refine Yg ?_;conv=>whnf));repeat((first|refine aK gpl ?_|refine aC epl ?_|refine aB.2 ?_|refine aD ?_);(conv=>whnf);repeat(refine Yg ?_;conv=>whnf))
         have q1:(P (j+1)).used=us+ru:=by rw[hnx]
         have q2:(P (j+1)).spans=sps++(a0,a0+us,a0+us+ru)::rsp:=by rw[hnx]
         have q3:(P (j+1)).vals=vls++[.mk v1 v2 v3 v4]:=by rw[hnx]
         have q4:(P (j+1)).stop = -1:=by rw[hnx]
         exact .mk (j+1,Y++(a0,a0+us,a0+us+ru)::X) [(0,0),(1,1),(2,2),(3,3),(10,5),(6,6),(12,7)] ⟨by simp only;omega,q4,by simp only;rw[q1];omega,by simp only;rw[q3,Ro,SQ];omega,by simp only;rw[q2];simp only[Ro,Sa];omega,fun e=>by simp only;rw[q2];first|rw[hYs e,hXs e]|rw[hYs trivial,hXs trivial]⟩
          (aJ _ rfl (dI (rid:=10) rfl rfl rfl rfl rfl rfl (by simp only;rw[q1];omega) rfl (by simp) rfl rfl rfl hset ⟨⟨6,_,rfl,rfl,.same (.cons (bM _) .nil)⟩,⟨12,_,rfl,rfl,.eq (aV _) (by simp only;rw[q3,eR];rfl)⟩,trivial⟩)
           ⟨⟨_,rfl,.ptr 3 3 0 0 rfl⟩,⟨_,rfl,.ptr 0 0 0 0 rfl⟩,⟨_,rfl,.ptr 1 1 0 0 rfl⟩,⟨_,rfl,.ptr 6 6 0 0 rfl⟩,⟨_,rfl,.same _ (.ip' hnn)⟩,aH,⟨_,rfl,.slE rfl (by simp only;rw[q3];simp)⟩,⟨_,rfl,.same _ (.il' (aG _))⟩,aH,⟨_,rfl,.wp⟩,trivial⟩) (by simp only;omega)
        ·have hws:rK F x:=by
          have e:(P (j+1)).stop=(a6 A p f k (a0+us)).stop:=by rw[hnx]
          have hne:(P (j+1)).stop≠-1:=by
           rw[e];rcases hx with⟨n,h1,-⟩|⟨h1,-⟩<;>omega
          unfold rK;rw[hFst,hend hne,e];exact hx
         ((conv=>whnf);repeat(refine Yg ?_;conv=>whnf));exact jP (rid:=10) hws rfl rfl rfl rfl rfl rfl rfl rfl rfl rfl
       ·have hje:j=kids.length:=by omega
        subst hje;have hFv:=hFv hst;have hm0:=hmd (P kids.length).vals;rw[←hFv] at hm0;have hvn:=bM F.val;have hFe:QZ A p true F a0 L=fun r m k=>r=bT F.val/\∃X:List Sp,X.length<=(P kids.length).spans.length/\(true=true->X=(P kids.length).spans)/\m=pT A p true (a0+(P kids.length).used) (L++X) 5 []/\k=6:=by
         unfold QZ;rw[hFst,hFus,hFss,hst]
         funext r m k
         simp
        rw[hFe];clear hFe hFv;generalize F.val=v at *;generalize P kids.length=pj at *;obtain⟨us,vls,sps,st⟩:=pj;simp only at hst hus hvl hYl hYs lv hm0 ⊢;obtain⟨v1,v2,v3,v4⟩:=v;((conv=>whnf);repeat(refine Yg ?_;conv=>whnf));rw[dj,R4 hjl];((conv=>whnf);repeat(refine Yg ?_;conv=>whnf));refine aM.toP ?_;refine aM.pre bC [(0,0),(1,1),(2,2),(3,3),(5,5),(6,6)] (mem':=pT A p true (a0+us) (L++Y) 5 [(6,.row 60 4 [bT vZ])]) rfl (dI (rid:=5) rfl rfl rfl rfl rfl rfl rfl rfl rfl rfl rfl rfl rfl ⟨⟨6,_,rfl,rfl,.same (.cons (bM _) .nil)⟩,trivial⟩)
         (.cons (.same _ (.ip' hnn)) (.cons (.fz' (id:=7) (off:=0) (len:=vls.length) (xs:=aT vls) (ys:=aT vls) rfl rfl (by omega) (by rw[SS,SA (by omega)]) (aV _)) .nil)) ?_
        refine hm0.go ?_ (.cons (.ip' hnn) (.cons (.il' (aV _)) .nil)) hvn;((conv=>whnf);repeat(refine Yg ?_;conv=>whnf));exact bK (n':=6) (m':=pT A p true (a0+us) (L++Y) 5 []) [(0,0),(1,1),(2,2),(3,3),(5,5)] rfl (dI (rid:=5) rfl rfl rfl rfl rfl rfl rfl rfl rfl rfl rfl rfl rfl trivial) (.same _ hvn) ⟨rfl,Y,hYl,hYs,rfl,rfl⟩
 ·rw[show (ln == 0)=false by simpa using hl];((conv=>whnf);repeat(refine Yg ?_;conv=>whnf));have k0:kind≠0:=fun e=>hl (hlk0 e)
  by_cases k1:kind=1
  ·subst k1;rw[Rp k0,Rp (by omega),Rp (by omega)] at hF;rw[Rx rfl] at hon;have hn:=hnum rfl;((conv=>whnf);repeat(refine Yg ?_;conv=>whnf));repeat((first|refine aB.2 ?_|refine aD ?_);(conv=>whnf);repeat(refine Yg ?_;conv=>whnf))
   refine hch _ _ _ _ _ rfl rfl (fun c1 c2 c3=>?_) (fun x hx=>?_) rfl
   ·have hw:IntKind.i64.wrap (lo+p.getD a0 0)=lo+p.getD a0 0:=bY ⟨by have:=hn.1;omega,by omega⟩;rw[Rp (by omega),Rp (by omega),Rx rfl] at hF;generalize p.getD a0 0=c at *;((conv=>whnf);repeat(refine Yg ?_;conv=>whnf));repeat((first|refine aB.2 ?_|refine aD ?_);(conv=>whnf);repeat(refine Yg ?_;conv=>whnf))
    rw[hw];have hus:F.used=1:=by rw[hF]
    exact bK (n':=6) (m':=pT A p s (a0+F.used) (L++[]) 5 []) [(0,0),(1,1),(2,2),(3,3),(4,5)] rfl (dI (rid:=4) rfl rfl rfl rfl rfl rfl (by rw[hus]) rfl (by simp) rfl rfl rfl (by simp) trivial) (.agg' (.s (.s (.s (.cons (.nil 4) .nil))))) ⟨by rw[hF],by rw[hF];rfl,[],TC _,fun _=>by rw[hF],rfl,rfl⟩
   ·have hws:rK F x:=by
     rcases hwc x hx with⟨q1,q2⟩|⟨q1,q2,q3⟩
     ·rw[Rx q1] at hF;exact .inl ⟨i,by rw[hF],q2⟩
     ·rw[Rp (by omega),Rx q2] at hF;exact .inr ⟨by rw[hF],q3⟩
    ((conv=>whnf);repeat(refine Yg ?_;conv=>whnf));exact jP (rid:=4) hws rfl rfl rfl rfl rfl rfl rfl rfl rfl rfl
  ·rw[Rp k1] at hon;rw[show (kind == 1)=false by simpa using k1];((conv=>whnf);repeat(refine Yg ?_;conv=>whnf));by_cases k2:kind=2
   ·subst k2;rw[Rp k0,Rp (by omega),Rp (by omega)] at hF;((conv=>whnf);repeat(refine Yg ?_;conv=>whnf));repeat((first|refine aB.2 ?_|refine aD ?_);(conv=>whnf);repeat(refine Yg ?_;conv=>whnf))
    refine hch _ _ _ _ _ rfl rfl (fun c1 c2 c3=>?_) (fun x hx=>?_) rfl
    ·rw[Rp (by omega),Rp (by omega),Rp k1] at hF;obtain⟨d1,d2,d3⟩:=hkI (p.getD a0 0) c2 (by omega);generalize p.getD a0 0=c at *;generalize bE ⟨2,name,lo,hi',ws,lbs,vals,kids,.mk vk vn vs vks⟩ c=q1 at *;have e1:(aI kids)[c.toNat]? = some (.int .i64 (q1:Int)):=by rw[bG,d3];rfl
     have hC1:L.length+(a6 A p f q1 (a0+1)).spans.length<=4294967296:=by rw[hF] at hC;exact hC
     ((conv=>whnf);repeat(refine Yg ?_;conv=>whnf));repeat((first|refine aC e1 ?_|refine aB.2 ?_|refine aD ?_);(conv=>whnf);repeat(refine Yg ?_;conv=>whnf))
     rw[Rs (show 0<=c by omega)];((conv=>whnf);repeat(refine Yg ?_;conv=>whnf));repeat((first|refine aC e1 ?_|refine aB.2 ?_|refine aD ?_);(conv=>whnf);repeat(refine Yg ?_;conv=>whnf))
     refine zB ih (L:=L) (by omega) (by omega) (by omega) hC1 4 rfl rfl rfl rfl rfl (fun _ _=>rfl) (fun f1 X hX hXs=>?_) (fun x hx a L'=>?_)
     ·generalize a6 A p f q1 (a0+1)=R1 at *;obtain⟨⟨u1,u2,u3,u4⟩,ru,rst,rsp⟩:=R1;simp only at hF f1 hX hXs ⊢;((conv=>whnf);repeat(refine Yg ?_;conv=>whnf));repeat((first|refine aC e1 ?_|refine aB.2 ?_|refine aD ?_);(conv=>whnf);repeat(refine Yg ?_;conv=>whnf))
      have hus:F.used=ru+1:=by rw[hF]
      have hss:F.spans=rsp:=by rw[hF]
      exact bK (n':=6) (m':=pT A p s (a0+F.used) (L++X) 5 []) [(0,0),(1,1),(2,2),(3,3),(18,5)] rfl (dI (rid:=18) rfl rfl rfl rfl rfl rfl (by rw[hus];omega) rfl rfl rfl rfl rfl rfl trivial) (.same _ (.agg' (.cons nn (.cons nn (.cons nn (.cons (.il' (aV _)) .nil)))))) ⟨by rw[hF];exact f1,by rw[hF];rfl,X,by rw[hss];exact hX,fun e=>by rw[hss];first|exact hXs e|exact hXs trivial,rfl,rfl⟩
     ·have hws:rK F x:=by rw[hF];exact hx
      ((conv=>whnf);repeat(refine Yg ?_;conv=>whnf));exact jP (rid:=18) hws rfl rfl rfl rfl rfl rfl rfl rfl rfl rfl
    ·have hws:rK F x:=by
      rcases hwc x hx with⟨q1,q2⟩|⟨q1,q2,q3⟩
      ·rw[Rx q1] at hF;exact .inl ⟨i,by rw[hF],q2⟩
      ·rw[Rp (by omega),Rx q2] at hF;exact .inr ⟨by rw[hF],q3⟩
     ((conv=>whnf);repeat(refine Yg ?_;conv=>whnf));exact jP (rid:=4) hws rfl rfl rfl rfl rfl rfl rfl rfl rfl rfl
   ·rw[show (kind == 2)=false by simpa using k2];((conv=>whnf);repeat(refine Yg ?_;conv=>whnf));by_cases k4:kind=4
    ·subst k4;rw[Rp k0,Rp (by omega),Rx rfl] at hF;have hb4:=(hbi rfl).1;have hb5:=(hbi rfl).2.1;obtain⟨c1,c2,c3⟩:=hkI 0 (by omega) (by omega);generalize hq0:bE ⟨4,name,lo,hi',ws,lbs,vals,kids,.mk vk vn vs vks⟩ 0=q0 at *;have e0:(aI kids)[(0:Int).toNat]? = some (.int .i64 (q0:Int)):=by rw[bG,c3];rfl
     have hme:=fun hs=>(hmem q0 a0 c1 hs).2 (hbi rfl).2.2.1
     rw[(hbi rfl).2.2.2] at hme;have hbd0:=hbd q0 a0 ha;have hC0:L.length+(a6 A p f q0 a0).spans.length<=4294967296:=by
      rw[hF] at hC;split at hC
      ·simp only[Ro] at hC;omega
      ·exact hC
     ((conv=>whnf);repeat(refine Yg ?_;conv=>whnf));repeat((first|refine aC e0 ?_|refine aB.2 ?_|refine aD ?_);(conv=>whnf);repeat(refine Yg ?_;conv=>whnf))
     refine zB ih (L:=L) (by omega) (by omega) ha hC0 4 rfl rfl rfl rfl rfl (fun _ _=>rfl) (fun f1 X hX hXs=>?_) (fun x hx a L'=>?_)
     ·have hme:=hme f1;rw[Rx f1] at hF;generalize a6 A p f q0 a0=R0 at *;obtain⟨v,u,st,sp⟩:=R0;simp only at hF f1 hX hXs hme hbd0 ⊢;obtain⟨w,fq,w1,w2⟩:=iZ hsrt hme;have hfv1:=hfv v;have hvn:=bM v;rw[fq] at hF hfv1;simp only at hF hfv1;obtain⟨d1,d2,d3⟩:=hkI ((w+1:Nat):Int) (by omega) (by omega);generalize bE ⟨4,name,lo,hi',ws,lbs,vals,kids,.mk vk vn vs vks⟩ ((w+1:Nat):Int)=q1 at *;have e1:(aI kids)[((w+1:Nat):Int).toNat]? = some (.int .i64 (q1:Int)):=by rw[bG,d3];rfl
      have hC1:(L++X).length+(a6 A p f q1 (a0+u)).spans.length<=4294967296:=by
       rw[hF] at hC;simp only[Ro] at hC ⊢;omega
      obtain⟨v1,v2,v3,v4⟩:=v;((conv=>whnf);repeat(refine Yg ?_;conv=>whnf));repeat((first|refine aC e0 ?_|refine aB.2 ?_|refine aD ?_);(conv=>whnf);repeat(refine Yg ?_;conv=>whnf))
      refine hfv1.goP ?_ (.cons (.ip' hnn) (.cons hvn .nil)) nn;((conv=>whnf);repeat(refine Yg ?_;conv=>whnf));repeat((first|refine aC e0 ?_|refine aC e1 ?_|refine aB.2 ?_|refine aD ?_);(conv=>whnf);repeat(refine Yg ?_;conv=>whnf))
      refine zB ih (L:=L++X) (by omega) (by omega) hbd0 hC1 25 rfl rfl rfl rfl rfl (fun _ _=>rfl) (fun f2 Y hY hYs=>?_) (fun x hx a L'=>?_)
      ·have hwu:(u:Int)+0=u:=by omega
       generalize a6 A p f q1 (a0+u)=R1 at *;obtain⟨⟨u1,u2,u3,u4⟩,ru,rst,rsp⟩:=R1;simp only at hF f2 hY hYs ⊢;((conv=>whnf);repeat(refine Yg ?_;conv=>whnf));repeat((first|refine aC e0 ?_|refine aC e1 ?_|refine aB.2 ?_|refine aD ?_);(conv=>whnf);repeat(refine Yg ?_;conv=>whnf))
       have hus:F.used=u+ru:=by rw[hF]
       have hss:F.spans=sp++rsp:=by rw[hF]
       exact bK (n':=6) (m':=pT A p s (a0+F.used) (L++(X++Y)) 5 []) [(0,0),(1,1),(2,2),(3,3),(26,5)] rfl (dI (rid:=26) rfl rfl rfl rfl rfl rfl (by rw[hus];omega) rfl (by simp) rfl rfl rfl (by simp) trivial) (.same _ (.agg' (.cons nn (.cons nn (.cons nn (.cons (.il' (aV _)) .nil)))))) ⟨by rw[hF];exact f2,by rw[hF];rfl,X++Y,by rw[hss,Ro,Ro];omega,fun e=>by rw[hss];first|rw[hXs e,hYs e]|rw[hXs trivial,hYs trivial],rfl,rfl⟩
      ·have hws:rK F x:=by rw[hF];exact hx
       ((conv=>whnf);repeat(refine Yg ?_;conv=>whnf));exact jP (rid:=26) hws rfl rfl rfl rfl rfl rfl rfl rfl rfl rfl
     ·have hws:rK F x:=by
       rw[Rp (show ¬(a6 A p f q0 a0).stop = -1 from fun e=>by
        rcases hx with⟨n,h1,-⟩|⟨h1,-⟩<;>omega)] at hF
       rw[hF];exact hx
      ((conv=>whnf);repeat(refine Yg ?_;conv=>whnf));exact jP (rid:=25) hws rfl rfl rfl rfl rfl rfl rfl rfl rfl rfl
    ·have k3:kind=3:=by omega
     subst k3;rw[Rp k0,Rx rfl] at hF;rw[show ((3:Int) == 4)=false by decide];have lkk:=aE kids;obtain⟨P,hP⟩:∃P:Nat->Pt,P=fun j=>bR (fun k q=>a6 A p f k q) a0 (kids.take j) ⟨0,[],[],-1⟩:=⟨_,rfl⟩
     have hP0:P 0=⟨0,[],[],-1⟩:=by rw[hP];rfl
     have hPe:bR (fun k q=>a6 A p f k q) a0 kids ⟨0,[],[],-1⟩=P kids.length:=by rw[hP];simp
     have hPn:∀j (hj:j<kids.length),(P j).stop = -1->P (j+1)=Ix (fun k q=>a6 A p f k q) a0 kids[j] (P j):=fun j hj hs=>by
      rw[hP] at hs ⊢;exact mI hj rfl hs
     have hPs:∀j (hj:j<kids.length),(P j).stop = -1->(P (j+1)).stop≠-1->P kids.length=P (j+1):=fun j hj hs hs2=>by
      rw[←hPe];rw[hP] at hs hs2 ⊢;exact qR hj rfl hs hs2
     have hPl:∀j (hj:j<kids.length),(P j).stop = -1->(P j).spans.length+1+(a6 A p f kids[j].toNat (a0+(P j).used)).spans.length<=F.spans.length:=fun j hj hs=>by
      rw[hF];simp only[Ca];rw[hP] at hs ⊢;exact wH (rd:=fun k q=>a6 A p f k q) hj rfl hs
     rw[hPe] at hF;have hFst:F.stop=(P kids.length).stop:=by rw[hF];rfl
     have hFus:F.used=(P kids.length).used:=by rw[hF];rfl
     have hFss:F.spans=(P kids.length).spans:=by rw[hF];rfl
     have hFv:(P kids.length).stop = -1->F.val=dJ name (P kids.length).vals:=fun e=>by rw[hF];simp only[Ca];rw[Rx e]
     clear hPe hP hF hbi hfv hmem hnum;((conv=>whnf);repeat(refine Yg ?_;conv=>whnf));refine a7.ph 60 4 ?_;refine a7.at bC (fun z:Nat × List Sp=>z.1<=kids.length/\(P z.1).stop = -1/\a0+(P z.1).used<=p.length/\(P z.1).vals.length=z.1/\z.2.length<=(P z.1).spans.length/\(s=true->z.2=(P z.1).spans))
      (fun z=>⟨[(6,.ptr 3 0 0),(7,.ptr 0 0 0),(8,.ptr 1 0 0),(10,.ptr 6 0 0),(11,.ip (bU ⟨3,name,lo,hi',ws,lbs,vals,kids,.mk vk vn vs vks⟩)),(12,.int .i64 a0),(13,.sl 7 0 (P z.1).vals.length),(90,.il 1 (aI kids)),(91,.int .i64 kids.length),(92,.int .i64 z.1)],
       pT A p s (a0+(P z.1).used) (L++z.2) 5 [(6,.row 60 4 [bT vZ]),(7,.row 60 4 (aT (P z.1).vals))],8,124⟩)
      (fun z=>kids.length-z.1) (0,[]) [(0,0),(1,1),(2,2),(3,3),(4,5),(5,6),(6,7)] ⟨by simp only;omega,by rw[hP0],by rw[hP0];simp only;omega,by rw[hP0];rfl,by simp,by rw[hP0];intro _;rfl⟩
      (aJ _ rfl (dI (rid:=4) rfl rfl rfl rfl rfl rfl (by rw[hP0];simp) rfl (by simp) rfl rfl rfl (by simp) ⟨⟨5,_,rfl,rfl,.cons (sX 0 0 []) .nil⟩,⟨6,_,rfl,rfl,by rw[hP0];exact .nil⟩,trivial⟩)
       ⟨⟨_,rfl,.ptr 3 3 0 0 rfl⟩,⟨_,rfl,.ptr 0 0 0 0 rfl⟩,⟨_,rfl,.ptr 1 1 0 0 rfl⟩,⟨_,rfl,.ptr 5 6 0 0 rfl⟩,⟨_,rfl,.same _ (.ip' hnn)⟩,aH,⟨_,rfl,by rw[hP0];exact .nslk 6 7 _ rfl rfl⟩,⟨_,rfl,.same _ (.il' (aG _))⟩,⟨_,rfl,.int (by rw[lkk])⟩,aH,trivial⟩) ?_
     rintro⟨j,Y⟩ ⟨hj,hst,hus,hvl,hYl,hYs⟩;simp only at hj hst hus hvl hYl hYs ⊢;have dj:decide ((j:Int)<(kids.length:Int))=decide (j<kids.length):=SB.2 (by omega);have ls:=c8 (L++Y);have lv:=aF (P j).vals;by_cases hjl:j<kids.length
     ·have hnx:=hPn j hjl hst;have hend:=hPs j hjl hst;have hln:=hPl j hjl hst;have ek:=dK hjl;obtain⟨m0,m1⟩:=hkm kids[j] (SI hjl);generalize kids[j]=kz at *;obtain⟨k,rfl⟩:=R7 m0;simp only[Rq] at m1 hnx hln;unfold Ix at hnx;simp only[Rq] at hnx;have hb:=hbd k (a0+(P j).used) hus;generalize hpj:P j=pj at *;obtain⟨us,vls,sps,st⟩:=pj;simp only at hst hus hvl hnx hln hb ls lv hYl hYs ⊢;subst hst;have hC1:(L++Y++[(a0,a0+us,a0+us)]).length+(a6 A p f k (a0+us)).spans.length<=4294967296:=by
       simp only[Ro,SQ];omega
      ((conv=>whnf);repeat(refine Yg ?_;conv=>whnf));rw[dj,Rs hjl];((conv=>whnf);repeat(refine Yg ?_;conv=>whnf));repeat((first|refine aC ek ?_|refine aB.2 ?_|refine aD ?_);(conv=>whnf);repeat(refine Yg ?_;conv=>whnf))
      refine aK (bP rfl rfl (by rw[ls]) (by simp;omega)) ?_;((conv=>whnf);repeat(refine Yg ?_;conv=>whnf));have hse:bQ (L++Y)++List.take 1 (List.drop 0 [AV.agg [.int .i64 (a0:Int),.int .i64 ((a0+us:Nat):Int),.int .i64 ((a0+us:Nat):Int)]])=bQ (L++Y++[(a0,a0+us,a0+us)]):=by rw[gL (L++Y)];rfl
      refine Io ih (L:=L++Y++[(a0,a0+us,a0+us)]) (by omega) (by omega) hus hC1 9 rfl (dI (rid:=9) rfl rfl rfl rfl rfl rfl rfl rfl (by simp;omega) rfl rfl rfl hse trivial) rfl rfl (fun _ _=>rfl) (fun f1 X hX hXs=>?_) (fun x hx a L'=>?_)
      ·generalize a6 A p f k (a0+us)=R1 at *;obtain⟨⟨v1,v2,v3,v4⟩,ru,rst,rsp⟩:=R1;simp only at hnx f1 hX hXs hln hb ⊢;subst f1;((conv=>whnf);repeat(refine Yg ?_;conv=>whnf));refine aK (bP rfl rfl (by rw[lv]) (by simp;omega)) ?_;((conv=>whnf);repeat(refine Yg ?_;conv=>whnf));have gpl:Nat.blt (((L++Y).length:Nat):Int).toNat (L++Y++[(a0,a0+us,a0+us)]++X).length=true:=Ru (by simp only[Ro,SQ,Rq];omega);have epl:(bQ (L++Y++[(a0,a0+us,a0+us)]++X))[0+(((L++Y).length:Nat):Int).toNat]? = some (.agg [.int .i64 (a0:Int),.int .i64 ((a0+us:Nat):Int),.int .i64 ((a0+us:Nat):Int)]):=by
        rw[SF,Rq,kJ,SG (by simp),SK (R2 _),Tu];rfl
       have hset:(bQ (L++Y++[(a0,a0+us,a0+us)]++X)).set (0+(((L++Y).length:Nat):Int).toNat) (.agg [.int .i64 (a0:Int),.int .i64 ((a0+us:Nat):Int),.int .i64 ((a0+us+ru:Nat):Int)])=bQ (L++(Y++(a0,a0+us,a0+us+ru)::X)):=by
        rw[SF,Rq,gL,gL (L++Y),SC,TW _ _ (by rw[ls];exact R2 _),ls,Tu,←SC L,gL (L++Y)];rfl
       repeat((first|refine aK gpl ?_|refine aC epl ?_|refine aB.2 ?_|refine aD ?_);(conv=>whnf);repeat(refine Yg ?_;conv=>whnf))
       generalize hae:s7 _ _ _ _ _=b;have hbf:b=false:=by rw[←hae];exact GU rfl epl rfl
       subst hbf;clear hae;((conv=>whnf);repeat(refine Yg ?_;conv=>whnf));repeat((first|refine aK gpl ?_|refine aC epl ?_|refine aB.2 ?_|refine aD ?_);(conv=>whnf);repeat(refine Yg ?_;conv=>whnf))
       have q1:(P (j+1)).used=us+ru:=by rw[hnx]
       have q2:(P (j+1)).spans=sps++(a0,a0+us,a0+us+ru)::rsp:=by rw[hnx]
       have q3:(P (j+1)).vals=vls++[.mk v1 v2 v3 v4]:=by rw[hnx]
       have q4:(P (j+1)).stop = -1:=by rw[hnx]
       exact .mk (j+1,Y++(a0,a0+us,a0+us+ru)::X) [(0,0),(1,1),(2,2),(3,3),(10,5),(6,6),(12,7)] ⟨by simp only;omega,q4,by simp only;rw[q1];omega,by simp only;rw[q3,Ro,SQ];omega,by simp only;rw[q2];simp only[Ro,Sa];omega,fun e=>by simp only;rw[q2];first|rw[hYs e,hXs e]|rw[hYs trivial,hXs trivial]⟩
        (aJ _ rfl (dI (rid:=10) rfl rfl rfl rfl rfl rfl (by simp only;rw[q1];omega) rfl (by simp) rfl rfl rfl hset ⟨⟨6,_,rfl,rfl,.same (.cons (bM _) .nil)⟩,⟨12,_,rfl,rfl,.eq (aV _) (by simp only;rw[q3,eR];rfl)⟩,trivial⟩)
         ⟨⟨_,rfl,.ptr 3 3 0 0 rfl⟩,⟨_,rfl,.ptr 0 0 0 0 rfl⟩,⟨_,rfl,.ptr 1 1 0 0 rfl⟩,⟨_,rfl,.ptr 6 6 0 0 rfl⟩,⟨_,rfl,.same _ (.ip' hnn)⟩,aH,⟨_,rfl,.slE rfl (by simp only;rw[q3];simp)⟩,⟨_,rfl,.same _ (.il' (aG _))⟩,aH,⟨_,rfl,.wp⟩,trivial⟩) (by simp only;omega)
      ·have hws:rK F x:=by
        have e:(P (j+1)).stop=(a6 A p f k (a0+us)).stop:=by rw[hnx]
        have hne:(P (j+1)).stop≠-1:=by
         rw[e];rcases hx with⟨n,h1,-⟩|⟨h1,-⟩<;>omega
        unfold rK;rw[hFst,hend hne,e];exact hx
       ((conv=>whnf);repeat(refine Yg ?_;conv=>whnf));exact jP (rid:=10) hws rfl rfl rfl rfl rfl rfl rfl rfl rfl rfl
     ·have hje:j=kids.length:=by omega
      subst hje;have hFv:=hFv hst;have hm0:=hmd (P kids.length).vals;rw[←hFv] at hm0;have hvn:=bM F.val;have hFe:QZ A p s F a0 L=fun r m k=>r=bT F.val/\∃X:List Sp,X.length<=(P kids.length).spans.length/\(s=true->X=(P kids.length).spans)/\m=pT A p s (a0+(P kids.length).used) (L++X) 5 []/\k=6:=by
       unfold QZ;rw[hFst,hFus,hFss,hst]
       funext r m k
       simp
      rw[hFe];clear hFe hFv;generalize F.val=v at *;generalize P kids.length=pj at *;obtain⟨us,vls,sps,st⟩:=pj;simp only at hst hus hvl hYl hYs lv hm0 ⊢;obtain⟨v1,v2,v3,v4⟩:=v;((conv=>whnf);repeat(refine Yg ?_;conv=>whnf));rw[dj,R4 hjl];((conv=>whnf);repeat(refine Yg ?_;conv=>whnf));refine aM.toP ?_;refine aM.pre bC [(0,0),(1,1),(2,2),(3,3),(5,5),(6,6)] (mem':=pT A p s (a0+us) (L++Y) 5 [(6,.row 60 4 [bT vZ])]) rfl (dI (rid:=5) rfl rfl rfl rfl rfl rfl rfl rfl rfl rfl rfl rfl rfl ⟨⟨6,_,rfl,rfl,.same (.cons (bM _) .nil)⟩,trivial⟩)
       (.cons (.same _ (.ip' hnn)) (.cons (.fz' (id:=7) (off:=0) (len:=vls.length) (xs:=aT vls) (ys:=aT vls) rfl rfl (by omega) (by rw[SS,SA (by omega)]) (aV _)) .nil)) ?_
      refine hm0.go ?_ (.cons (.ip' hnn) (.cons (.il' (aV _)) .nil)) hvn;((conv=>whnf);repeat(refine Yg ?_;conv=>whnf));exact bK (n':=6) (m':=pT A p s (a0+us) (L++Y) 5 []) [(0,0),(1,1),(2,2),(3,3),(5,5)] rfl (dI (rid:=5) rfl rfl rfl rfl rfl rfl rfl rfl rfl rfl rfl rfl rfl trivial) (.same _ hvn) ⟨rfl,Y,hYl,hYs,rfl,rfl⟩
set_option maxHeartbeats 16000000
theorem vL{r:yO}{rid len:Nat}{mem:aS}{n:Nat}{v1 v2:Int}{v3:List UInt8}{v4:List bB}{us st:Int}{xs:List AV}(hm:lk mem rid=some (.row 138 3 xs))(hx:xs=bQ r.spans)(hl:len=r.spans.length)(hv:r.val = .mk v1 v2 v3 v4)(hu:us=(r.used:Int))(hs:st=r.stop) :
  lE 0 (Oh r) (.agg [.int .i64 v1,.int .i64 v2,.str v3,.il 4 (aT v4),.int .i64 us,.int .i64 st,.sl rid 0 len]) mem n:=by
 obtain⟨v,u,s,sp⟩:=r;simp only at hx hl hv hu hs;subst hv hu hs hx;exact bK (n':=1) (m':=[(0,.row 138 3 (bQ sp))]) [(rid,0)] (by rfl) ⟨⟨rid,_,by simp[lk],hm,.same (dQ _)⟩,trivial⟩
  (.agg' (.s (.s (.s (.cons (.same _ (.il' (aV _))) (.s (.s (.cons (.slE (by simp[lk]) hl) .nil)))))))) ⟨rfl,rfl,rfl⟩
theorem yG{r:yO}{mem:aS}{n pid:Nat}{v1 v2:Int}{v3:List UInt8}{v4:AV}{ks:List bB}{us st:Int}(hm:lk mem pid=some (.row 138 3 []))(hx:r.spans=[])(hv:r.val = .mk v1 v2 v3 ks)(h4:Cv mem [(pid,0)] v4 (.il 4 (aT ks)))(hu:us=(r.used:Int))(hs:st=r.stop) :
  lE 0 (Oh r) (.agg [.int .i64 v1,.int .i64 v2,.str v3,v4,.int .i64 us,.int .i64 st,.nsl]) mem n:=by
 obtain⟨v,u,s,sp⟩:=r;simp only at hx hv hu hs;subst hv hu hs hx;exact bK (n':=1) (m':=[(0,.row 138 3 [])]) [(pid,0)] (by rfl) ⟨⟨pid,_,by simp[lk],hm,.nil⟩,trivial⟩
  (.agg' (.s (.s (.s (.cons h4 (.s (.s (.cons (.nslk pid 0 _ hm (by simp[lk])) .nil)))))))) ⟨rfl,rfl,rfl⟩
theorem qB{F:FuncId}{args:List AV}{R:yO}(hq:aM prog [] F args [] 0 (Oh R)){mem:aS}{nx:Nat}{K:AV->aS->Nat->Prop}
  (hc:(iK [(nx,AB.row 138 3 [])] && (jG [(0,nx)] && (Nat.ble nx (nx+1) && (jX [] nx [(nx,AB.row 138 3 [])] && oO [] 0 nx (nx+1) [(0,nx)]))))=true)
  (hk:K (Cn R.val R.used R.stop nx R.spans.length) ((nx,.row 138 3 (bQ R.spans))::mem) (nx+1)) (ha:g9 args) :
  aM prog [] F args mem nx K:=by
 refine aM.useN bC [] hq rfl (.same ha) trivial rfl ?_;rintro r m k ⟨rfl,rfl,rfl⟩;obtain⟨⟨v1,v2,v3,v4⟩,u,st,sp⟩:=R;have hdr:∀m:aS,eT (fN []) m=m:=by
  intro m
  induction m with
  | nil=>rfl
  | cons a m ih=>obtain⟨k,b⟩:=a;simp only[fN,eT,zO];rw[show eT [] m=m from ih]
 refine⟨[(0,nx)],Cn (.mk v1 v2 v3 v4) u st nx sp.length,[(nx,.row 138 3 (bQ sp))],nx+1,.agg' (.s (.s (.s (.cons (.same _ (.il' (aV _))) (.s (.s (.cons (.slE rfl rfl) .nil))))))),⟨⟨0,_,rfl,rfl,.same (dQ _)⟩,trivial⟩,hc, ?_⟩;rw[hdr];exact hk
theorem Pr{A:List Nd}(h:VT A){p:List Int}(hp:p.length<=1000000000)(hpi:∀x∈p,i64 x)(hS:∀f i a0,i<f->i<A.length->(a6 A p f i a0).spans.length<=4294967296)(f:Nat)(ih:QQ A p f):QQ A p (f+1):=by
 intro i a0 hif hi ha;have hx:=dS hi;have hg:=h.node hx;have hkm:=fun(k:Int) (hk:k∈(aN A i).kids)=>fF h hx hk
 have hkI:=fun(c:Int) (h0:0<=c) (h1:c<(aN A i).kids.length)=>h.kidI hx h0 h1
 have hbi:=fun h4=>h.bind hx h4
 have hne:=mL hi;have hnn:=aW (aN A i);have nA:NN (.il 12 (aR A)):=.il' (aQ A);have np:NN (.il 1 (aI p)):=.il' (aG p);have hkl:=h.tin.klen _ (R3 hx);have hfv:=fun(v:bB)=>Nt (aN A i).values v (by have:=h.tin.vlen _ (R3 hx);omega) hg.val
 have hop:=FM (aN A i) (fun _=>hg.node.num);have hmem:=fun(k a:Nat) (hk:k<i)=>mH h p f k a (by omega) (by omega)
 have hbd:∀(k q:Nat),q<=p.length->q+(a6 A p f k q).used<=p.length:=fun k q hq=>(tH (A:=A) p f k q hq).1
 have hkind:=hg.node.kind;have hnum:=fun(e:(aN A i).kind=1)=>cA hg.node.num
 have hsrt:=hg.srt;have hSi:=hS (f+1) i a0 hif hi;obtain⟨F,hF⟩:∃F,F=a6 A p (f+1) i a0:=⟨_,rfl⟩
 rw[←hF] at hSi ⊢;simp only[a6] at hF;have hpa:(aN A i).kind=3->_:=fun e=>Ol h hp ih hx (by omega) ha (by rw[hF,Rp (by omega),Rx e] at hSi;exact hSi)
 clear hg hx;have hpe:∀q:Nat,q<p.length->(aI p)[(q:Int).toNat]? = some (.int .i64 (p.getD q 0)):=fun q hq=>by
  rw[dK hq,Rn,Rm hq];rfl
 have hpc:∀q:Nat,i64 (p.getD q 0):=fun q=>by
  rw[Rn];cases e:p[q]? with
  | none=>exact⟨by simp,by simp⟩
  | some v=>exact hpi v (R3 e)
 have hon:fM (aN A i)=if (aN A i).kind=1 then(aN A i).hi-(aN A i).lo+1 else(aN A i).kids.length:=rfl
 generalize aN A i=x at *;obtain⟨kind,name,lo,hi',ws,lbs,vals,kids,⟨vk,vn,vs,vks⟩⟩:=x;simp only at hkm hkI hbi hkl hF hfv hkind hnum hsrt hpa hon;refine aL bC func69 rfl ?_
 conv=>whnf
 refine eA.ph 138 3 ?_
 dsimp only
 ((conv=>whnf);repeat(refine Xg ?_;conv=>whnf));repeat((first|refine aC hne ?_|refine aB.2 ?_|refine aD ?_);(conv=>whnf);repeat(refine Xg ?_;conv=>whnf))
 by_cases k0:kind=0
 ·subst k0;rw[Rx rfl] at hF;((conv=>whnf);repeat(refine Xg ?_;conv=>whnf));exact yG (pid:=0) rfl (by rw[hF]) (by rw[hF]) (.same _ (.il' (aV _))) (by rw[hF];rfl) (by rw[hF])
 ·rw[Rp k0] at hF;rw[show (kind == 0)=false by simpa using k0];((conv=>whnf);repeat(refine Xg ?_;conv=>whnf));by_cases k3:kind=3
  ·subst k3;rw[Rx rfl] at hF;have hpa:=hpa rfl;rw[←hF] at hpa;((conv=>whnf);repeat(refine Xg ?_;conv=>whnf));repeat((first|refine aB.2 ?_|refine aD ?_);(conv=>whnf);repeat(refine Xg ?_;conv=>whnf))
   refine qB hpa rfl ?_ (.cons (.agg' (.cons nA .nil)) (.cons hnn (.cons np (.cons nn .nil))));clear hF hpa hSi;obtain⟨⟨v1,v2,v3,v4⟩,u,st,sp⟩:=F;((conv=>whnf);repeat(refine Xg ?_;conv=>whnf));exact vL (rid:=4) rfl rfl rfl rfl rfl rfl
  ·rw[Rp k3] at hF;rw[show (kind == 3)=false by simpa using k3];((conv=>whnf);repeat(refine Xg ?_;conv=>whnf));by_cases k4:kind=4
   ·subst k4;rw[Rx rfl] at hF;have hb4:=(hbi rfl).1;have hb5:=(hbi rfl).2.1;obtain⟨c1,c2,c3⟩:=hkI 0 (by omega) (by omega);have e0:(aI kids)[(0:Int).toNat]? = some (.int .i64 (bE ⟨4,name,lo,hi',ws,lbs,vals,kids,.mk vk vn vs vks⟩ 0:Int)):=by rw[bG,c3];rfl
    ((conv=>whnf);repeat(refine Xg ?_;conv=>whnf));repeat((first|refine aC e0 ?_|refine aB.2 ?_|refine aD ?_);(conv=>whnf);repeat(refine Xg ?_;conv=>whnf))
    generalize hk0e:bE ⟨4,name,lo,hi',ws,lbs,vals,kids,.mk vk vn vs vks⟩ 0=q0 at *;have hme:=fun hs=>(hmem q0 a0 (by omega) hs).2 (hbi rfl).2.2.1
    rw[(hbi rfl).2.2.2] at hme;have hbd0:=hbd q0 a0 ha;refine qB (ih q0 a0 (by omega) (by omega) ha) rfl ?_ (.cons (.agg' (.cons nA .nil)) (.cons nn (.cons np (.cons nn .nil))));generalize a6 A p f q0 a0=R0 at *;obtain⟨⟨v1,v2,v3,v4⟩,u,st,sp⟩:=R0;simp only at hF hme hbd0 ⊢;((conv=>whnf);repeat(refine Xg ?_;conv=>whnf));repeat((first|refine aB.2 ?_|refine aD ?_);(conv=>whnf);repeat(refine Xg ?_;conv=>whnf))
    by_cases hst:st = -1
    ·subst hst;rw[Rx rfl] at hF;obtain⟨w,fq,w1,w2⟩:=iZ hsrt (hme rfl);have hfv1:=hfv (.mk v1 v2 v3 v4);rw[fq] at hF hfv1;simp only at hF hfv1;obtain⟨d1,d2,d3⟩:=hkI ((w+1:Nat):Int) (by omega) (by omega);generalize bE ⟨4,name,lo,hi',ws,lbs,vals,kids,.mk vk vn vs vks⟩ ((w+1:Nat):Int)=q1 at *;have e1:(aI kids)[((w+1:Nat):Int).toNat]? = some (.int .i64 (q1:Int)):=by rw[bG,d3];rfl
     have hw1:IntKind.i64.wrap ((w:Int)+1)=((w+1:Nat):Int):=w64 (by omega) ⟨by omega,by omega⟩;have hw2:IntKind.i64.wrap ((a0:Int)+(u:Int))=((a0+u:Nat):Int):=by rw[bY ⟨by omega,by omega⟩];omega
     ((conv=>whnf);repeat(refine Xg ?_;conv=>whnf));refine hfv1.go ?_ (.cons (.il' (aV _)) (.cons (.agg' (.cons nn (.cons nn (.cons nn (.cons (.il' (aV _)) .nil))))) .nil)) nn;((conv=>whnf);repeat(refine Xg ?_;conv=>whnf));repeat((first|refine aB.2 ?_|refine aD ?_);(conv=>whnf);repeat(refine Xg ?_;conv=>whnf))
     rw[hw1];((conv=>whnf);repeat(refine Xg ?_;conv=>whnf));repeat((first|refine aC e1 ?_|refine aB.2 ?_|refine aD ?_);(conv=>whnf);repeat(refine Xg ?_;conv=>whnf))
     rw[hw2];have hbd1:=hbd q1 (a0+u) hbd0;have hwu:∀ru:Nat,a0+u+ru<=p.length->IntKind.i64.wrap ((u:Int)+(ru:Int))=((u+ru:Nat):Int):=fun ru hru=>by rw[bY ⟨by omega,by omega⟩];omega
     refine qB (ih q1 (a0+u) (by omega) (by omega) hbd0) rfl ?_ (.cons (.agg' (.cons nA .nil)) (.cons nn (.cons np (.cons nn .nil))));generalize a6 A p f q1 (a0+u)=R1 at *;obtain⟨⟨u1,u2,u3,u4⟩,ru,rst,rsp⟩:=R1;simp only at hF hbd1 ⊢;have hwu:=hwu ru hbd1;rw[hF] at hSi;simp only[Ro] at hSi;have ls:=c8 sp;have lr:=c8 rsp;have htk:List.take rsp.length (List.drop 0 (bQ rsp))=bQ rsp:=by rw[SS,SA (by omega)]
     ((conv=>whnf);repeat(refine Xg ?_;conv=>whnf));repeat((first|refine aC e1 ?_|refine aB.2 ?_|refine aD ?_);(conv=>whnf);repeat(refine Xg ?_;conv=>whnf))
     rw[hwu];refine aK (Ap (by omega)) ?_;rw[htk];((conv=>whnf);repeat(refine Xg ?_;conv=>whnf));refine aK (bP rfl rfl (by omega) (by omega)) ?_;((conv=>whnf);repeat(refine Xg ?_;conv=>whnf));repeat((first|refine aC e1 ?_|refine aB.2 ?_|refine aD ?_);(conv=>whnf);repeat(refine Xg ?_;conv=>whnf))
     exact vL (rid:=47) rfl (by rw[hF,gL]) (by rw[hF,lr];simp) (by rw[hF]) (by rw[hF]) (by rw[hF])
    ·rw[Rp hst] at hF;rw[show (st != -1)=true by simpa using hst];rw[hF];((conv=>whnf);repeat(refine Xg ?_;conv=>whnf));exact vL (rid:=14) rfl rfl rfl rfl rfl rfl
   ·rw[Rp k4] at hF;rw[show (kind == 4)=false by simpa using k4];((conv=>whnf);repeat(refine Xg ?_;conv=>whnf));have lp:=aE p;have d1:decide ((a0:Int)≥((aI p).length:Int))=decide (p.length<=a0):=by rw[lp];exact SB.2 (by omega)
    rw[d1];by_cases hpl:p.length<=a0
    ·rw[Rx hpl] at hF;rw[Rs hpl];((conv=>whnf);repeat(refine Xg ?_;conv=>whnf));exact yG (pid:=0) (ks:=[]) rfl (by rw[hF]) (by rw[hF];rfl) (.nil 4) (by rw[hF];rfl) (by rw[hF])
    ·rw[Rp hpl] at hF;have hpe:=hpe a0 (by omega);have hpc:=hpc a0;rw[R4 hpl];generalize p.getD a0 0=c at *;((conv=>whnf);repeat(refine Xg ?_;conv=>whnf));repeat((first|refine aC hpe ?_|refine aB.2 ?_|refine aD ?_);(conv=>whnf);repeat(refine Xg ?_;conv=>whnf))
     by_cases hc0:c<0
     ·rw[Rx (.inl hc0)] at hF;rw[Rs hc0];((conv=>whnf);repeat(refine Xg ?_;conv=>whnf));exact yG (pid:=0) (ks:=[]) rfl (by rw[hF]) (by rw[hF];rfl) (.nil 4) (by rw[hF];rfl) (by rw[hF])
     ·rw[R4 hc0];have hop2:=hop;generalize fM ⟨kind,name,lo,hi',ws,lbs,vals,kids,.mk vk vn vs vks⟩=o at *;((conv=>whnf);repeat(refine Xg ?_;conv=>whnf));refine hop2.go ?_ (.cons hnn .nil) nn;((conv=>whnf);repeat(refine Xg ?_;conv=>whnf));have d2:decide (c≥o)=decide (o<=c):=SB.2 (by omega);rw[d2];by_cases hco:o<=c
      ·rw[Rx (.inr hco)] at hF;rw[Rs hco];((conv=>whnf);repeat(refine Xg ?_;conv=>whnf));exact yG (pid:=0) (ks:=[]) rfl (by rw[hF]) (by rw[hF];rfl) (.nil 4) (by rw[hF];rfl) (by rw[hF])
      ·rw[Rp (show ¬(c<0∨o<=c) by omega)] at hF;rw[R4 hco];by_cases k1:kind=1
       ·subst k1;rw[Rx rfl] at hF hon;have hn:=hnum rfl;have hw:IntKind.i64.wrap (lo+c)=lo+c:=bY ⟨by have:=hn.1;omega,by omega⟩;((conv=>whnf);repeat(refine Xg ?_;conv=>whnf));rw[hw];exact yG (pid:=0) (ks:=[]) rfl (by rw[hF]) (by rw[hF]) (.nil 4) (by rw[hF];rfl) (by rw[hF])
       ·rw[Rp k1] at hF hon;((conv=>whnf);repeat(refine Xg ?_;conv=>whnf));rw[show (kind == 1)=false by simpa using k1];obtain⟨d1,d2,d3⟩:=hkI c (by omega) (by omega);generalize bE ⟨kind,name,lo,hi',ws,lbs,vals,kids,.mk vk vn vs vks⟩ c=q1 at *;have e1:(aI kids)[c.toNat]? = some (.int .i64 (q1:Int)):=by rw[bG,d3];rfl
        have hw2:IntKind.i64.wrap ((a0:Int)+1)=((a0+1:Nat):Int):=w64 (by omega) ⟨by omega,by omega⟩;((conv=>whnf);repeat(refine Xg ?_;conv=>whnf));repeat((first|refine aC e1 ?_|refine aB.2 ?_|refine aD ?_);(conv=>whnf);repeat(refine Xg ?_;conv=>whnf))
        rw[Rs (show 0<=c by omega)];((conv=>whnf);repeat(refine Xg ?_;conv=>whnf));repeat((first|refine aC e1 ?_|refine aB.2 ?_|refine aD ?_);(conv=>whnf);repeat(refine Xg ?_;conv=>whnf))
        rw[hw2];have hbd1:=hbd q1 (a0+1) (by omega);refine qB (ih q1 (a0+1) (by omega) (by omega) (by omega)) rfl ?_ (.cons (.agg' (.cons nA .nil)) (.cons nn (.cons np (.cons nn .nil))));generalize a6 A p f q1 (a0+1)=R1 at *;obtain⟨⟨u1,u2,u3,u4⟩,ru,rst,rsp⟩:=R1;simp only at hF hbd1 ⊢;have hwu:IntKind.i64.wrap ((ru:Int)+1)=((ru+1:Nat):Int):=w64 (by omega) ⟨by omega,by omega⟩;((conv=>whnf);repeat(refine Xg ?_;conv=>whnf));repeat((first|refine aC e1 ?_|refine aB.2 ?_|refine aD ?_);(conv=>whnf);repeat(refine Xg ?_;conv=>whnf))
        rw[hwu];exact vL (rid:=16) rfl (by rw[hF]) (by rw[hF]) (by rw[hF]) (by rw[hF]) (by rw[hF])
theorem FL{A:List Nd}(h:VT A){p:List Int}(hp:p.length<=1000000000)(hpi:∀x∈p,i64 x)(hS:∀f i a0,i<f->i<A.length->(a6 A p f i a0).spans.length<=4294967296):∀f,QQ A p f
 | 0=>fun i a0 hif _ _=>by omega
 | f+1=>Pr h hp hpi hS f (FL h hp hpi hS f)
def gF(A:List Nd)(p:List Int):yO:=a6 A p A.length (A.length-1) 0
def gI(p:List Int)(r:yO):yO:=if r.stop = -1/\r.used<p.length then⟨r.val,r.used,-2,r.spans⟩ else r
theorem Au(A:List Nd)(p:List Int):(gF A p).used<=p.length:=by
 have:=(tH (A:=A) p A.length (A.length-1) 0 (TC _)).1;unfold gF;omega
structure Kk(A:List Nd)(p:List Int):Prop where
 tree:VT A
 len:p.length<=1000000
 i64:∀x∈p,i64 x
 cnt:∀f i a0,i<f->i<A.length->(a6 A p f i a0).spans.length<=4294967296
theorem Gj{A:List Nd}{p:List Int}(h:Kk A p):aM prog [] 43 [.agg [.il 12 (aR A)],.il 1 (aI p)] [] 0 (Oh (gI p (gF A p))):=by
 have hp:=h.tree.pos;have hl:=h.tree.tin.len;have hpl:=h.len;have hR:=FL h.tree (by omega) h.i64 h.cnt A.length (A.length-1) 0 (by omega) (by omega) (TC _);have hu:=Au A p;have nA:NN (.il 12 (aR A)):=.il' (aQ A);have np:NN (.il 1 (aI p)):=.il' (aG p);have hw:IntKind.i64.wrap (((aR A).length:Int)-1)=((A.length-1:Nat):Int):=by rw[bD,bY ⟨by omega,by omega⟩];omega
 have lp:=aE p;rw[show a6 A p A.length (A.length-1) 0=gF A p from rfl] at hR;obtain⟨F,hF⟩:∃F,F=gI p (gF A p):=⟨_,rfl⟩
 rw[←hF];unfold gI at hF;generalize gF A p=R at *;obtain⟨⟨v1,v2,v3,v4⟩,u,st,sp⟩:=R;simp only at hF hu;refine aL bC func43 rfl ?_;((conv=>whnf);repeat(refine Xg ?_;conv=>whnf));rw[hw];refine qB hR rfl ?_ (.cons (.agg' (.cons nA .nil)) (.cons nn (.cons np (.cons nn .nil))));((conv=>whnf);repeat(refine Xg ?_;conv=>whnf));by_cases hst:st = -1
 ·subst hst;((conv=>whnf);repeat(refine Xg ?_;conv=>whnf));have d1:decide ((u:Int)<((aI p).length:Int))=decide (u<p.length):=by rw[lp];exact SB.2 (by omega)
  rw[d1];by_cases hup:u<p.length
  ·rw[Rx ⟨rfl,hup⟩] at hF;rw[Rs hup];((conv=>whnf);repeat(refine Xg ?_;conv=>whnf));exact vL (rid:=2) rfl (by rw[hF]) (by rw[hF]) (by rw[hF]) (by rw[hF]) (by rw[hF])
  ·rw[Rp (fun e=>hup e.2)] at hF;rw[R4 hup];((conv=>whnf);repeat(refine Xg ?_;conv=>whnf));exact vL (rid:=2) rfl (by rw[hF]) (by rw[hF]) (by rw[hF]) (by rw[hF]) (by rw[hF])
 ·rw[Rp (fun e=>hst e.1)] at hF;rw[show (st == -1)=false by simpa using hst];((conv=>whnf);repeat(refine Xg ?_;conv=>whnf));exact vL (rid:=2) rfl (by rw[hF]) (by rw[hF]) (by rw[hF]) (by rw[hF]) (by rw[hF])
set_option maxHeartbeats 8000000
theorem O5(ns:List Nd)(n:Nat)(hn:n<=ns.length)(hl:ns.length<=100000)(hg:∀(i:Nat) (x:Nd),i<n->ns[i]? = some x->iN i x) :
  aM prog [] 113 [.agg [.il 12 (aR ns)],.int .i64 n] [] 0 fun r m k=>r = .sl 0 0 n/\m=[(0,.row 151 2 (Go.Ax.encLs (aP (ns.take n))))]/\k=1:=by
 refine aL bC func113 rfl ?_;((conv=>whnf);repeat(refine Xg ?_;conv=>whnf));refine a7.ph 151 2 ?_;refine a7.at bC (fun i:Nat=>i<=n)
  (fun i=>⟨[(1,.int .i64 n),(2,.ptr 1 0 0),(5,.sl 2 0 i),(6,.int .i64 i)],[(1,.row 44 1 [.agg [.il 12 (aR ns)]]),(2,.row 151 2 (Go.Ax.encLs (aP (ns.take i))))],3,23⟩)
  (fun i=>n-i) 0 [(0,1),(1,2)] (by simp)
  (aJ _ rfl ⟨⟨0,_,rfl,rfl,.same (.cons (.agg' (.cons (.il' (aQ _)) .nil)) .nil)⟩,⟨1,_,rfl,rfl,.same .nil⟩,trivial⟩ ⟨aH,⟨_,rfl,.ptr 0 1 0 0 rfl⟩,⟨_,rfl,.nslk 1 2 _ rfl rfl⟩,aH,trivial⟩) ?_
 intro i hi;((conv=>whnf);repeat(refine Xg ?_;conv=>whnf));refine aO (fun h=>?_) (fun h=>?_)
 ·have hin:i<n:=by simp at h;omega
  obtain⟨x,hx1,hx2,ex,bx⟩:=rP (l:=ns) (k:=i) (n:=ns.length) (by omega) rfl;have ex:(aR ns)[((i:Nat):Int).toNat]? = some (bU x):=by rw[SF] at ex;exact ex
  have hgx:=hg i x hin hx1;have htl:(aP (ns.take i)).length=i:=by rw[eB];simp;omega
  have hL:=Nw i x (aP (ns.take i)) hgx htl.symm (iQ _ fun j y hy=>by
   have hj:=(Rt.1 hy).1;rw[Go.Ax.ST,Rx (by simp at hj;omega)] at hy;exact hg j y (by simp at hj;omega) hy)
  have hnx:aP (ns.take (i+1))=aP (ns.take i)++[cW x (aP (ns.take i))]:=by rw[Rv (by omega),hx2,gV]
  have hxn:=aW x;have hxc:(bU x).cells.length=12:=by obtain⟨kind,name,lo,hi,ws,ls,vals,kids,⟨vk,vn,vs,vks⟩⟩:=x;rfl
  generalize cW x (aP (ns.take i))=nl at hL hnx;obtain⟨bs,hbs⟩:∃bs,bs=aP (ns.take i):=⟨_,rfl⟩
  rw[←hbs] at hL hnx htl ⊢;obtain⟨kind,name,lo,hi,ws,ls,vals,kids,⟨vk,vn,vs,vks⟩⟩:=x;((conv=>whnf);repeat(refine Xg ?_;conv=>whnf));repeat((first|refine aK bx ?_|refine aC ex ?_);(conv=>whnf);repeat(refine Xg ?_;conv=>whnf))
  refine aM.use1 bC hL 2 rfl (Go.Ax.encLs_nn bs) (.cons (.same _ hxn) (.cons (.slE rfl htl.symm) .nil)) ?_;rintro r m k ⟨rfl,rfl⟩;refine⟨_,rfl,mE _,Go.Ax.encLs_nn bs, ?_⟩;((conv=>whnf);repeat(refine Xg ?_;conv=>whnf));refine aK (bP rfl rfl (by rw[Go.Ax.encLs_length,htl]) (by simp;omega)) ?_;((conv=>whnf);repeat(refine Xg ?_;conv=>whnf));exact .mk (i+1) [(1,1),(4,2)] (by omega)
   (aJ _ rfl ⟨⟨1,_,rfl,rfl,.same (.cons (.agg' (.cons (.il' (aQ _)) .nil)) .nil)⟩,⟨4,_,rfl,rfl,.eq (Go.Ax.encLs_nn _) (by rw[hnx];simp[Go.Ax.encLs])⟩,trivial⟩ ⟨aH,⟨_,rfl,.ptr 1 1 0 0 rfl⟩,⟨_,rfl,.slE rfl (by simp)⟩,⟨_,rfl,.wo⟩,trivial⟩) (by omega)
 ·have hin:i=n:=by simp at h;omega
  subst hin;((conv=>whnf);repeat(refine Xg ?_;conv=>whnf));exact bK (r':=.sl 0 0 i) (n':=1) (m':=[(0,.row 151 2 (Go.Ax.encLs (aP (ns.take i))))]) [(2,0)] rfl ⟨⟨2,_,rfl,rfl,.same (Go.Ax.encLs_nn _)⟩,trivial⟩ (.sl 2 0 0 _ rfl) ⟨rfl,rfl,rfl⟩
theorem Mv(ns:List Nd)(i:Nat)(hi:i<ns.length)(hl:ns.length<=100000)(hg:∀(j:Nat) (x:Nd),j<i+1->ns[j]? = some x->iN j x) :
  aM prog [] 92 [.agg [.il 12 (aR ns)],.int .i64 i] [] 0 fun r m k=>r = .tup [.il 4 (aT (c9 (aP (ns.take (i+1))) i).vals),.bool (!(c9 (aP (ns.take (i+1))) i).many)]/\m=[]/\k=0:=by
 have hL:=O5 ns (i+1) (by omega) hl hg;have hw:IntKind.i64.wrap ((i:Int)+1)=((i+1:Nat):Int):=w64 (by omega) ⟨by omega,by omega⟩;have hat:=Db hi;have hlen:(aP (ns.take (i+1))).length=i+1:=by rw[eB];simp;omega
 generalize c9 (aP (ns.take (i+1))) i=b at hat ⊢;generalize aP (ns.take (i+1))=bs at hL hat hlen;obtain⟨bv,bm⟩:=b;have e2:(Go.Ax.encLs bs)[0+((i:Nat):Int).toNat]? = some (lG ⟨bv,bm⟩):=by rw[SF,Rq,Go.Ax.encLs_get,hat];rfl
 have b2:Nat.blt ((i:Nat):Int).toNat (i+1)=true:=Ru (by simp);refine aL bC func92 rfl ?_;((conv=>whnf);repeat(refine Xg ?_;conv=>whnf));rw[hw];refine aM.useN bC [] hL rfl (.cons (.same _ (.agg' (.cons (.il' (aQ _)) .nil))) (.s .nil)) trivial rfl ?_;rintro r m k ⟨rfl,rfl,rfl⟩;refine⟨[(0,2)],.sl 2 0 (i+1),[(2,.row 151 2 (Go.Ax.encLs bs))],3,.sl 0 2 0 _ rfl,⟨⟨0,_,rfl,rfl,.same (Go.Ax.encLs_nn _)⟩,trivial⟩,rfl, ?_⟩;((conv=>whnf);repeat(refine Xg ?_;conv=>whnf));repeat((first|refine aD ?_|refine aK b2 ?_|refine aC e2 ?_);(conv=>whnf);repeat(refine Xg ?_;conv=>whnf))
 exact aA nn ⟨rfl,rfl,rfl⟩
theorem iF(ns:List Nd)(x:Nd)(i:Nat)(hi:i<=ns.length)(hl:ns.length<=100000)(hg:∀(j:Nat) (x:Nd),j<i->ns[j]? = some x->iN j x)(hx:rL x)(hk0:0<x.kids.length)(hk:∀(j:Nat) (k:Int),x.kids[j]? = some k->0<=k/\k<i) :
  a8 prog [] 68 [.agg [.il 12 (aR ns)],bU x] (.int .i64 (e8 ns x)):=by
 obtain⟨q,hq⟩:∃q,x.kids[0]? = some q:=⟨x.kids[0],Rm hk0⟩
 obtain⟨q1,q2⟩:=hk 0 q hq;obtain⟨qn,rfl⟩:=R7 q1;have hgd:x.kids.getD 0 0=qn:=by rw[Rn,hq];rfl
 have hV:=Mv ns qn (by omega) hl fun j y hj hy=>hg j y (by omega) hy
 have hbl:=pM (iQ (ns.take (qn+1)) fun j y hy=>hg j y (by have:=(Go.Ax.f9 hy).2;omega) (Go.Ax.f9 hy).1) qn;have hbe:e8 ns x=if (c9 (aP (ns.take (qn+1))) qn).many=true then 4 else if dU (c9 (aP (ns.take (qn+1))) qn).vals x.values=true then 0 else 1:=by
  unfold e8;simp only[hgd,Rq]
 rw[hbe];generalize c9 (aP (ns.take (qn+1))) qn=b at hV hbl ⊢;obtain⟨bv,bm⟩:=b;simp only at hV hbl ⊢;have hS:=Ic bv x.values (by omega) hbl.2;generalize dU bv x.values=sm at hS ⊢;have ek:(aI x.kids)[(0:Int).toNat]? = some (.int .i64 (qn:Int)):=by rw[bG];simp[hq]
 obtain⟨kind,name,lo,hi',ws,ls,vals,kids,⟨vk,vn,vs,vks⟩⟩:=x;simp only at hS ek;refine aL bC func68 rfl ?_;((conv=>whnf);repeat(refine Xg ?_;conv=>whnf));repeat((first|refine aD ?_|refine aC ek ?_);(conv=>whnf);repeat(refine Xg ?_;conv=>whnf))
 refine a8.go hV ?_ (.cons (.agg' (.cons (.il' (aQ _)) .nil)) (.cons nn .nil));cases bm with
 | true=>
  ((conv=>whnf);repeat(refine Xg ?_;conv=>whnf));repeat((first|refine aD ?_|refine aC ek ?_);(conv=>whnf);repeat(refine Xg ?_;conv=>whnf))
  exact aA nn ⟨rfl,rfl,rfl⟩
 | false=>
  ((conv=>whnf);repeat(refine Xg ?_;conv=>whnf));repeat((first|refine aD ?_|refine aC ek ?_);(conv=>whnf);repeat(refine Xg ?_;conv=>whnf))
  refine hS.go ?_;cases sm with
  | true=>
   ((conv=>whnf);repeat(refine Xg ?_;conv=>whnf));exact aA nn ⟨rfl,rfl,rfl⟩
  | false=>
   ((conv=>whnf);repeat(refine Xg ?_;conv=>whnf));exact aA nn ⟨rfl,rfl,rfl⟩
theorem OE(ns:List Nd)(hl:ns.length<=100000)(ho:∀x∈ns,rL x/\x.values.length<=4294967290) :
  a8 prog [] 42 [.agg [.il 12 (aR ns)]] (.int .i64 (cP ns)):=by
 have hfin:∀(e:Int) (mem:aS) (nx:Nat),e=cP ns->lE 0 (fun r m n=>r = .int .i64 (cP ns)/\m=[]/\n=0) (.int .i64 e) mem nx:=by
  intro e mem nx he;exact aA nn ⟨by rw[he],rfl,rfl⟩
 refine aL bC func42 rfl ?_;((conv=>whnf);repeat(refine Xg ?_;conv=>whnf));refine aO (fun h=>?_) (fun h=>?_)
 ·have h1:4096<ns.length:=by rw[bD] at h;simp at h;omega
  ((conv=>whnf);repeat(refine Xg ?_;conv=>whnf));exact hfin _ _ _ (by unfold cP;rw[Rx h1])
 ·have h1:¬4096<ns.length:=by rw[bD] at h;simp at h;omega
  have hvt:cP ns=b9 [] ns:=by unfold cP;rw[Rp h1]
  ((conv=>whnf);repeat(refine Xg ?_;conv=>whnf));refine a7.ph 3 1 ?_;refine a7.ph 3 1 ?_;refine a7.at bC (fun i:Nat=>i<=ns.length/\b9 [] (ns.take i)=0)
   (fun i=>⟨[(1,.ptr 1 0 0),(3,.sl 2 0 i),(4,.sl 3 0 i),(5,.int .i64 i)],[(1,.row 44 1 [.agg [.il 12 (aR ns)]]),(2,.row 3 1 (aI (aX (ns.take i)))),(3,.row 3 1 (aI (cM (ns.take i))))],4,57⟩)
   (fun i=>ns.length-i) 0 [(0,1),(1,2),(2,3)] ⟨by simp,by simp[b9]⟩
   (aJ _ rfl ⟨⟨0,_,rfl,rfl,.same (.cons (.agg' (.cons (.il' (aQ _)) .nil)) .nil)⟩,⟨1,_,rfl,rfl,.same .nil⟩,⟨2,_,rfl,rfl,.same .nil⟩,trivial⟩ ⟨⟨_,rfl,.ptr 0 1 0 0 rfl⟩,⟨_,rfl,.nslk 1 2 _ rfl rfl⟩,⟨_,rfl,.nslk 2 3 _ rfl rfl⟩,aH,trivial⟩) ?_
  rintro i ⟨hi,hv0⟩;((conv=>whnf);repeat(refine Xg ?_;conv=>whnf));refine aO (fun h=>?_) (fun h=>?_)
  ·have hin:i<ns.length:=by rw[bD] at h;simp at h;omega
   obtain⟨x,hx1,hx2,ex,bx⟩:=rP (l:=ns) (k:=i) (n:=ns.length) hin rfl;have hxm:=R3 hx1;have ex:(aR ns)[((i:Nat):Int).toNat]? = some (bU x):=by rw[SF] at ex;exact ex
   obtain⟨hxo,hxv⟩:=ho x hxm;have hsplit:ns=ns.take i++x::ns.drop (i+1):=by rw[←hx2,←SH hin,Go.Ax.SW]
   have hti:(ns.take i).length=i:=by simp;omega
   have htn:ns.take (i+1)=ns.take i++[x]:=by rw[Rv hin,hx2]
   have hgood:=jT (ns.take i) (fun y hy=>(ho y (Se hy)).1) hv0;obtain⟨hls,hss⟩:=g6 (ns.take i) hv0;have hll:(aX (ns.take i)).length=i:=by rw[eY,hti]
   have hsl:(cM (ns.take i)).length=i:=by rw[i5,hti]
   have hstop:=fun hs=>s9 (l:=ns.take i) (r:=ns.drop (i+1)) (x:=x) hv0 hs
   rw[←hsplit] at hstop;have hgo:=fJ [] (ns.take i) x hv0;rw[SY,←htn] at hgo;have hN:=Nr i x (by omega) hxo hxv;have hlt:=gC (ns.take i) x;have hst:=j7 (ns.take i) x;rw[←htn] at hlt hst;have hse:gJ (ns.take i) (aX (ns.take i)) (cM (ns.take i)) x=if fE i x≠0 then fE i x else if 256<eU (aX (ns.take i)) x∨1024<jY (cM (ns.take i)) x then 4 else if x.kind=4 then e8 (ns.take i) x else 0:=by
    unfold gJ;rw[hti]
   have hbnd:(0<x.kids.length/\∀(j:Nat) (k:Int),x.kids[j]? = some k->0<=k/\k<i)->e8 (ns.take i) x=e8 ns x:=by
    rintro⟨h0,hk⟩;obtain⟨q,hq⟩:∃q,x.kids[0]? = some q:=⟨x.kids[0],Rm h0⟩
    obtain⟨q1,q2⟩:=hk 0 q hq;have hgd:x.kids.getD 0 0=q:=by rw[Rn,hq];rfl
    unfold e8;simp only[hgd];rw[To,Tm (by omega)]
   have hxn:=aW x;obtain⟨ne,hne⟩:∃ne,ne=fE i x:=⟨_,rfl⟩
   rw[←hne] at hN hse;by_cases n0:ne=0
   ·subst n0;have hok:=kQ hne.symm;have h4:4<=x.kind->0<x.kids.length:=fun h=>by have:=hok.bind (by have:=hok.kind;omega);omega
    have hL:=Fg (aX (ns.take i)) x hxo (by omega) hls (by rw[hll];exact hok.kids) h4 hok.kind;have hS:=K0 (cM (ns.take i)) x hxo (by omega) hss (by rw[hsl];exact hok.kids) h4 hok.kind;have hB:=iF ns x i (by omega) hl (fun j y hj hy=>hgood j y (by rw[Go.Ax.ST,Rx hj];exact hy)) hxo;rw[Rp (by simp)] at hse;generalize aX (ns.take i)=lsI at hL hll hlt hse hstop hgo hls ⊢;generalize cM (ns.take i)=ssI at hS hsl hst hse hstop hgo hss ⊢;generalize eU lsI x=ln at hL hlt hse;generalize jY ssI x=sn at hS hst hse;obtain⟨kind,name,lo,hi',ws,ls,vals,kids,⟨vk,vn,vs,vks⟩⟩:=x;simp only at hse h4 hB hbnd hok;((conv=>whnf);repeat(refine Xg ?_;conv=>whnf));repeat((first|refine aK bx ?_|refine aC ex ?_);(conv=>whnf);repeat(refine Xg ?_;conv=>whnf))
    refine hN.go ?_ (.cons (.int _ _) (.cons hxn .nil));((conv=>whnf);repeat(refine Xg ?_;conv=>whnf));refine aM.useApp bC hL 2 rfl (aG _) (.cons (.slE rfl hll.symm) (.cons (.same _ hxn) .nil)) ?_;rintro len ys ⟨rfl,rfl⟩;((conv=>whnf);repeat(refine Xg ?_;conv=>whnf));refine aM.useApp bC hS 3 rfl (aG _) (.cons (.slE rfl hsl.symm) (.cons (.same _ hxn) .nil)) ?_;rintro len ys ⟨rfl,rfl⟩;have el:(aI (lsI++[ln]))[0+((i:Nat):Int).toNat]? = some (.int .i64 ln):=by simp[aI,hll]
    have bl:Nat.blt ((i:Nat):Int).toNat (lsI.length+1)=true:=Ru (by simp;omega);have es:(aI (ssI++[sn]))[0+((i:Nat):Int).toNat]? = some (.int .i64 sn):=by simp[aI,hsl]
    have bs':Nat.blt ((i:Nat):Int).toNat (ssI.length+1)=true:=Ru (by simp;omega);((conv=>whnf);repeat(refine Xg ?_;conv=>whnf));repeat((first|refine aK bl ?_|refine aC el ?_);(conv=>whnf);repeat(refine Xg ?_;conv=>whnf))
    refine aO (fun h2=>?_) (fun h2=>?_)
    ·have h3:256<ln:=by simpa using h2
     rw[h2];rw[Rx (.inl h3)] at hse;have hres:=hstop (by rw[hse];omega);((conv=>whnf);repeat(refine Xg ?_;conv=>whnf));exact hfin _ _ _ (by rw[hvt,hres,hse])
    ·have h3:¬256<ln:=by simpa using h2
     rw[h2];((conv=>whnf);repeat(refine Xg ?_;conv=>whnf));repeat((first|refine aK bs' ?_|refine aC es ?_);(conv=>whnf);repeat(refine Xg ?_;conv=>whnf))
     refine aO (fun h4'=>?_) (fun h4'=>?_)
     ·have h5:1024<sn:=by simpa using h4'
      rw[h4'];rw[Rx (.inr h5)] at hse;have hres:=hstop (by rw[hse];omega);((conv=>whnf);repeat(refine Xg ?_;conv=>whnf));exact hfin _ _ _ (by rw[hvt,hres,hse])
     ·have h5:¬1024<sn:=by simpa using h4'
      rw[h4'];rw[Rp (by omega)] at hse;by_cases k4:kind=4
      ·rw[Rx k4] at hse;have h40:=h4 (by omega);have hB:=hB h40 hok.kids;rw[hbnd ⟨h40,hok.kids⟩] at hse;generalize e8 ns ⟨kind,name,lo,hi',ws,ls,vals,kids,.mk vk vn vs vks⟩=be at hB hse;subst k4;((conv=>whnf);repeat(refine Xg ?_;conv=>whnf));refine hB.go ?_ (.cons (.agg' (.cons (.il' (aQ _)) .nil)) (.cons hxn .nil));by_cases be0:be=0
       ·subst be0;rw[hse] at hgo;((conv=>whnf);repeat(refine Xg ?_;conv=>whnf));exact .mk (i+1) [(1,1),(5,2),(6,3)] ⟨by omega,hgo⟩
         (aJ _ rfl ⟨⟨1,_,rfl,rfl,.same (.cons (.agg' (.cons (.il' (aQ _)) .nil)) .nil)⟩,⟨5,_,rfl,rfl,.eq (aG _) (by rw[hlt])⟩,⟨6,_,rfl,rfl,.eq (aG _) (by rw[hst])⟩,trivial⟩ ⟨⟨_,rfl,.ptr 1 1 0 0 rfl⟩,⟨_,rfl,.slE rfl (by rw[hll])⟩,⟨_,rfl,.slE rfl (by rw[hsl])⟩,⟨_,rfl,.wo⟩,trivial⟩) (by omega)
       ·have d5:(be != 0)=true:=by simpa using be0
        have hres:=hstop (by rw[hse];exact be0);((conv=>whnf);repeat(refine Xg ?_;conv=>whnf));rw[d5];((conv=>whnf);repeat(refine Xg ?_;conv=>whnf));exact hfin _ _ _ (by rw[hvt,hres,hse])
      ·rw[Rp k4] at hse;have d4:(kind == 4)=false:=by simpa using k4
       rw[hse] at hgo;((conv=>whnf);repeat(refine Xg ?_;conv=>whnf));rw[d4];((conv=>whnf);repeat(refine Xg ?_;conv=>whnf));exact .mk (i+1) [(1,1),(5,2),(6,3)] ⟨by omega,hgo⟩
        (aJ _ rfl ⟨⟨1,_,rfl,rfl,.same (.cons (.agg' (.cons (.il' (aQ _)) .nil)) .nil)⟩,⟨5,_,rfl,rfl,.eq (aG _) (by rw[hlt])⟩,⟨6,_,rfl,rfl,.eq (aG _) (by rw[hst])⟩,trivial⟩ ⟨⟨_,rfl,.ptr 1 1 0 0 rfl⟩,⟨_,rfl,.slE rfl (by rw[hll])⟩,⟨_,rfl,.slE rfl (by rw[hsl])⟩,⟨_,rfl,.wo⟩,trivial⟩) (by omega)
   ·have d1:(ne != 0)=true:=by simpa using n0
    have hse':=hse;rw[Rx n0] at hse';have hres:=hstop (by rw[hse'];exact n0);rw[hse'] at hres;obtain⟨kind,name,lo,hi',ws,ls,vals,kids,⟨vk,vn,vs,vks⟩⟩:=x;((conv=>whnf);repeat(refine Xg ?_;conv=>whnf));repeat((first|refine aK bx ?_|refine aC ex ?_);(conv=>whnf);repeat(refine Xg ?_;conv=>whnf))
    refine hN.go ?_ (.cons (.int _ _) (.cons hxn .nil));((conv=>whnf);repeat(refine Xg ?_;conv=>whnf));rw[d1];((conv=>whnf);repeat(refine Xg ?_;conv=>whnf));exact hfin _ _ _ (by rw[hvt,hres])
  ·have hin:i=ns.length:=by rw[bD] at h;simp at h;omega
   subst hin;rw[SD] at hv0;((conv=>whnf);repeat(refine Xg ?_;conv=>whnf));exact hfin _ _ _ (by rw[hvt,hv0])
set_option maxHeartbeats 16000000
structure Je(A:List Nd)(p:List Int):Prop where
 tin:qT A
 len:p.length<=1000000
 i64:∀x∈p,i64 x
 cnt:VT A->∀f i a0,i<f->i<A.length->(a6 A p f i a0).spans.length<=4294967296
theorem Je.pth{A:List Nd}{p:List Int}(h:Je A p)(hv:VT A):Kk A p:=⟨hv,h.len,h.i64,h.cnt hv⟩
theorem E1{A:List Nd}(h:qT A):a8 prog [] 42 [.agg [.il 12 (aR A)]] (.int .i64 (cP A)):=
 OE A (by have:=h.len;omega) fun x hx=>⟨h.ok x hx,by have:=h.vlen x hx;omega⟩
def bV(A:List Nd)(p:List Int):Int:=if cP A≠0 then cP A else if A.length=0 then 11 else if (gI p (gF A p)).stop = -1 then 0 else 11
def kY(A:List Nd)(p:List Int):bB:=if bV A p=0 then(gF A p).val else vZ
def bW(A:List Nd)(p:List Int):List Sp:=if bV A p=0 then(gF A p).spans else []
theorem uJ(p:List Int)(r:yO):(gI p r).val=r.val/\(gI p r).spans=r.spans:=by
 unfold gI;split<;>exact⟨rfl,rfl⟩
theorem tI{A:List Nd}{p:List Int}(h:Je A p):a8 prog [] 70 [.agg [.il 12 (aR A)],.il 1 (aI p)] (.tup [bT (kY A p),.int .i64 (bV A p)]):=by
 have hv:=E1 h.tin;have nA:NN (.il 12 (aR A)):=.il' (aQ A);have np:NN (.il 1 (aI p)):=.il' (aG p);have lA:=bD A;have hE:bV A p=if cP A≠0 then cP A else if A.length=0 then 11 else if (gI p (gF A p)).stop = -1 then 0 else 11:=rfl
 have hV:kY A p=if bV A p=0 then(gI p (gF A p)).val else vZ:=by rw[(uJ _ _).1];rfl
 have hR:=fun(e:cP A=0) (hp:0<A.length)=>Gj (h.pth ⟨h.tin,e,hp⟩)
 generalize kY A p=V at *;generalize bV A p=E at *;generalize cP A=vl at *;refine aL bC func70 rfl ?_;((conv=>whnf);repeat(refine Xg ?_;conv=>whnf));refine hv.go ?_ (.cons (.agg' (.cons nA .nil)) .nil) nn;((conv=>whnf);repeat(refine Xg ?_;conv=>whnf));refine aO (fun hb=>?_) (fun hb=>?_)
 ·have h0:vl≠0:=by simpa using hb
  rw[Rx h0] at hE;rw[Rp (by omega)] at hV;rw[hV,hE];((conv=>whnf);repeat(refine Xg ?_;conv=>whnf));exact bF (r':=.tup [bT vZ,.int .i64 vl]) (.tup' (.cons (.agg' (.s (.s (.s (.cons (.nil 4) .nil))))) (.s .nil))) ⟨rfl,rfl,rfl⟩
 ·have h0:vl=0:=by simpa using hb
  subst h0;have hR:=hR rfl;rw[Rp (by simp)] at hE;((conv=>whnf);repeat(refine Xg ?_;conv=>whnf));refine aO (fun hb=>?_) (fun hb=>?_)
  ·have h0:A.length=0:=by rw[lA] at hb;simpa using hb
   rw[Rx h0] at hE;rw[Rp (by omega)] at hV;rw[hV,hE];((conv=>whnf);repeat(refine Xg ?_;conv=>whnf));exact bF (r':=.tup [bT vZ,.int .i64 11]) (.tup' (.cons (.agg' (.s (.s (.s (.cons (.nil 4) .nil))))) (.s .nil))) ⟨rfl,rfl,rfl⟩
  ·have h0:A.length≠0:=by rw[lA] at hb;simpa using hb
   have hR:=hR (by omega);rw[Rp h0] at hE;generalize gI p (gF A p)=R at *;obtain⟨⟨v1,v2,v3,v4⟩,u,st,sp⟩:=R;simp only at hE hV;((conv=>whnf);repeat(refine Xg ?_;conv=>whnf));refine qB hR rfl ?_ (.cons (.agg' (.cons nA .nil)) (.cons np .nil));((conv=>whnf);repeat(refine Xg ?_;conv=>whnf));by_cases hst:st = -1
   ·subst hst;rw[Rx rfl] at hE;rw[hE,Rx rfl] at hV;rw[hV,hE];((conv=>whnf);repeat(refine Xg ?_;conv=>whnf));exact bF (r':=.tup [bT (.mk v1 v2 v3 v4),.int .i64 0]) (.same _ (.tup' (.cons (bM (.mk v1 v2 v3 v4)) (.cons nn .nil)))) ⟨rfl,rfl,rfl⟩
   ·rw[Rp hst] at hE;rw[Rp (by omega)] at hV;rw[show (st != -1)=true by simpa using hst];rw[hV,hE];((conv=>whnf);repeat(refine Xg ?_;conv=>whnf));exact bF (r':=.tup [bT vZ,.int .i64 11]) (.tup' (.cons (.agg' (.s (.s (.s (.cons (.nil 4) .nil))))) (.s .nil))) ⟨rfl,rfl,rfl⟩
def EV(A:List Nd):Int:=if cP A≠0 then cP A else if A.length=0 then 10 else 0
def Ce(A:List Nd)(raw:List Int):List Int:=if EV A=0 then fV A raw else []
theorem FB{A:List Nd}(h:VT A)(raw:List Int){m:Nat}(hm:m<=(fV A raw).length) :
  (m<(fV A raw).length->∃n,n<A.length/\(gI ((fV A raw).take m) (gF A ((fV A raw).take m))).stop=(n:Int)/\(fV A raw)[m]? = some (c7 raw (aN A n) m)) /\
  (m=(fV A raw).length->(gI ((fV A raw).take m) (gF A ((fV A raw).take m))).stop = -1):=by
 have hp:=h.pos;constructor
 ·intro hlt;obtain⟨n,n1,n2,n3⟩:=N2 h raw ((fV A raw).take m) A.length (A.length-1) 0 m (by omega) (by omega) hlt (by rw[SS];rfl);have hs:(gI ((fV A raw).take m) (gF A ((fV A raw).take m))).stop=(n:Int):=by
   have e:(gF A ((fV A raw).take m)).stop=(n:Int):=n2;unfold gI;rw[Rp (fun e2=>by rw[e] at e2;omega),e]
  exact⟨n,n1,hs,by rw[SF] at n3;exact n3⟩
 ·intro he;have ha:=Ik h raw (fV A raw) A.length (A.length-1) 0 [] (by omega) (by omega) (by rw[SS,Sh];rfl);rw[he,SD];unfold gI;have e1:(gF A (fV A raw)).stop = -1:=ha.stop;have e2:(gF A (fV A raw)).used=(fV A raw).length:=ha.used;rw[Rp (fun e=>by rw[e2] at e;omega),e1]
theorem FG{A:List Nd}(h:VT A)(raw:List Int)(hr:∀x∈raw,i64 x):∀x∈fV A raw,i64 x:=fun x hx=>by
 obtain⟨m,hm⟩:=Sb hx;have hml:=(Rt.1 hm).1;obtain⟨n,-,-,h3⟩:=(FB h raw (m:=m) (by omega)).1 hml;rw[hm] at h3;cases h3;unfold c7;split
 ·rename_i hq;have:=hr _ (R3 (Rm hq));rw[Rn,Rm hq];obtain⟨a,b⟩:=this;simp only[TG];exact⟨by omega,by omega⟩
 ·exact⟨by omega,by omega⟩
theorem QM{mem:aS}{σ:List (Nat × Nat)}{id:Nat}{t:TypeId}{sz:Nat}{c v:AV}(h1:lk mem id=some (.row t sz [.agg [c]]))(h2:lk σ id=none)(hc:Cv mem σ c v):Cv mem σ (.ptr id 0 0) (.ip (.agg [v])):=
 .fzp id 0 0 t sz _ _ _ h1 h2 rfl (R2 _) fun k c c' h1 h2=>by
  rw[SF] at h1;exact(iL.cons hc .nil).2 k c c' h1 h2
def RH(stop:Int):AV:=.agg [.junk,.junk,.junk,.junk,.junk,.int .i64 stop,.junk]
theorem G8(s:Int):Sc (RH s):=.agg _ fun j c h=>by
 match j,h with
 | 0,h=>cases h;exact .junk
 | 1,h=>cases h;exact .junk
 | 2,h=>cases h;exact .junk
 | 3,h=>cases h;exact .junk
 | 4,h=>cases h;exact .junk
 | 5,h=>cases h;exact .int _ _
 | 6,h=>cases h;exact .junk
theorem Gw{v:bB}{u:Nat}{st:Int}{rid n:Nat}{mem:aS}:Cv mem [] (Cn v u st rid n) (RH st):=by
 obtain⟨v1,v2,v3,v4⟩:=v;exact .agg' (.cons (.junk _) (.cons (.junk _) (.cons (.junk _) (.cons (.junk _) (.cons (.junk _) (.s (.cons (.junk _) .nil)))))))
theorem Nx{A:List Nd}(hin:qT A)(hS:VT A->∀p f i a0,i<f->i<A.length->(a6 A p f i a0).spans.length<=4294967296)(raw:List Int)(hr:raw.length<=17592186043904)(hri:∀x∈raw,i64 x) :
  a8 prog [] 33 [.agg [.il 12 (aR A)],.il 1 (aI raw)] (.tup [.il 1 (aI (Ce A raw)),.int .i64 (EV A)]):=by
 have hv:=E1 hin;have nA:NN (.il 12 (aR A)):=.il' (aQ A);have nr:NN (.il 1 (aI raw)):=.il' (aG raw);have lA:=bD A;have lr:=aE raw;have hE:EV A=if cP A≠0 then cP A else if A.length=0 then 10 else 0:=rfl
 have hV:Ce A raw=if EV A=0 then fV A raw else []:=rfl
 have hvt:=fun(e:cP A=0) (hp:0<A.length)=>(⟨hin,e,hp⟩:VT A)
 generalize Ce A raw=V at *;generalize EV A=E at *;generalize cP A=vl at *;refine aL bC func33 rfl ?_;((conv=>whnf);repeat(refine Xg ?_;conv=>whnf));refine hv.go ?_ (.cons (.agg' (.cons nA .nil)) .nil) nn;((conv=>whnf);repeat(refine Xg ?_;conv=>whnf));refine aO (fun hb=>?_) (fun hb=>?_)
 ·have h0:vl≠0:=by simpa using hb
  rw[Rx h0] at hE;rw[Rp (by omega)] at hV;rw[hV,hE];((conv=>whnf);repeat(refine Xg ?_;conv=>whnf));exact bF (r':=.tup [.il 1 (aI []),.int .i64 vl]) (.tup' (.cons (.nil 1) (.s .nil))) ⟨rfl,rfl,rfl⟩
 ·have h0:vl=0:=by simpa using hb
  subst h0;rw[Rp (by simp)] at hE;((conv=>whnf);repeat(refine Xg ?_;conv=>whnf));refine aO (fun hb=>?_) (fun hb=>?_)
  ·have h0:A.length=0:=by rw[lA] at hb;simpa using hb
   rw[Rx h0] at hE;rw[Rp (by omega)] at hV;rw[hV,hE];((conv=>whnf);repeat(refine Xg ?_;conv=>whnf));exact bF (r':=.tup [.il 1 (aI []),.int .i64 10]) (.tup' (.cons (.nil 1) (.s .nil))) ⟨rfl,rfl,rfl⟩
  ·have h0:A.length≠0:=by rw[lA] at hb;simpa using hb
   rw[Rp h0] at hE;rw[Rx hE] at hV;have hT:=hvt rfl (by omega);have hfl:=o9 hT raw;have hst:=fun m (hm:m<=(fV A raw).length)=>FB hT raw hm
   have hpi:=FG hT raw hri;have hRd:=fun(m:Nat)=>Gj (A:=A) (p:=(fV A raw).take m) ⟨hT,by rw[SX];omega,fun x hx=>hpi x (Se hx),hS hT _⟩
   rw[hV,hE];clear hvt hV hE hb;obtain⟨Q,hQ⟩:∃Q,Q=fV A raw:=⟨_,rfl⟩
   rw[←hQ] at hfl hst hpi hRd ⊢;obtain⟨S,hSe⟩:∃S:Nat->yO,S=fun m=>gI (Q.take m) (gF A (Q.take m)):=⟨_,rfl⟩
   have hst:∀m,m<=Q.length->(m<Q.length->∃n,n<A.length/\(S m).stop=(n:Int)/\Q[m]? = some (c7 raw (aN A n) m))/\(m=Q.length->(S m).stop = -1):=by rw[hSe];exact hst
   have hRd:∀m,aM prog [] 43 [.agg [.il 12 (aR A)],.il 1 (aI (Q.take m))] [] 0 (Oh (S m)):=by rw[hSe];exact hRd
   clear hSe hQ hS;have hR0:=hRd 0;rw[UI] at hR0;((conv=>whnf);repeat(refine Xg ?_;conv=>whnf));refine aM.lendJ bC hR0 (.cons (.same _ (.agg' (.cons nA .nil))) (.cons (.nil 1) .nil)) ?_;rintro r m k ⟨rfl,rfl,rfl⟩;refine⟨_,Gw,G8 _, ?_⟩;((conv=>whnf);repeat(refine Xg ?_;conv=>whnf));refine a7.ph 3 1 ?_;refine a7.at bC (fun m:Nat=>m<=Q.length)
    (fun m=>⟨[(1,.il 1 (aI raw)),(2,.ip (.agg [.il 12 (aR A)])),(7,.sl 1 0 m),(8,.ptr 0 0 0)],[(0,.row 67 7 [RH (S m).stop]),(1,.row 3 1 (aI (Q.take m)))],2,53⟩) (fun m=>Q.length-m) 0 [(1,0),(2,1)] (by omega)
    (aJ _ rfl ⟨⟨1,_,rfl,rfl,.cons (.agg (.cons (.junk _) (.cons (.junk _) (.cons (.junk _) (.cons (.junk _) (.cons (.junk _) (.s (.cons (.junk _) .nil)))))))) .nil⟩,⟨2,_,rfl,rfl,.nil⟩,trivial⟩
     ⟨⟨_,rfl,.same _ nr⟩,⟨_,rfl,QM rfl rfl (.same _ nA)⟩,⟨_,rfl,.nslk 2 1 _ rfl rfl⟩,⟨_,rfl,.ptr 1 0 0 0 rfl⟩,trivial⟩) ?_
   intro m hm;have hRm:=hRd (m+1);have hme:=(hst m hm).2;have hml:=(hst m hm).1;by_cases hlt:m<Q.length
   ·obtain⟨n,n1,n2,n3⟩:=hml hlt;have hx:=dS n1;have hg:=hT.node hx;have hne:=mL n1;have hnn:=aW (aN A n);have hop:=FM (aN A n) (fun _=>hg.node.num);have hoi:0<=fM (aN A n)/\fM (aN A n)<=1099511627776:=by
     have hkl:=hT.tin.klen _ (R3 hx);unfold fM;split
     ·have:=cA hg.node.num;omega
     ·omega
    have hcd:c7 raw (aN A n) m=if m<raw.length then max 0 (min (raw.getD m 0) (fM (aN A n)-1)) else 0:=rfl
    have htk:Q.take (m+1)=Q.take m++[c7 raw (aN A n) m]:=by
     obtain⟨h1,h2⟩:=Rt.1 n3;rw[Rv h1,h2]
    have lq:(aI (Q.take m)).length=m:=by rw[aE,SX];omega
    have ltm:(Q.take m).length=m:=by rw[SX];omega
    generalize fM (aN A n)=o at *;generalize c7 raw (aN A n) m=c at *;generalize aN A n=x at *;obtain⟨kind,name,lo,hi',ws,lbs,vals,kids,⟨vk,vn,vs,vks⟩⟩:=x;have d1:decide ((m:Int)<((aI raw).length:Int))=decide (m<raw.length):=by rw[lr];exact SB.2 (by omega)
    ((conv=>whnf);repeat(refine Xg ?_;conv=>whnf));rw[n2,Rs (show ((n:Nat):Int)≥0 by omega)];((conv=>whnf);repeat(refine Xg ?_;conv=>whnf));rw[d1];by_cases hmr:m<raw.length
    ·have er:=dK hmr;rw[Rx hmr,Rn,Rm hmr] at hcd;simp only[TG] at hcd;generalize raw[m]=z at *;have hw:IntKind.i64.wrap (o-1)=o-1:=bY ⟨by omega,by omega⟩;rw[Rs hmr];((conv=>whnf);repeat(refine Xg ?_;conv=>whnf));repeat((first|refine aC er ?_|refine aC hne ?_|refine aB.2 ?_|refine aD ?_);(conv=>whnf);repeat(refine Xg ?_;conv=>whnf))
     refine hop.go ?_ (.cons hnn .nil) nn;((conv=>whnf);repeat(refine Xg ?_;conv=>whnf));repeat((first|refine aC er ?_|refine aC hne ?_|refine aB.2 ?_|refine aD ?_);(conv=>whnf);repeat(refine Xg ?_;conv=>whnf))
     have hif:(if (if IntKind.i64.wrap (o-1)<z then IntKind.i64.wrap (o-1) else z)>0 then if IntKind.i64.wrap (o-1)<z then IntKind.i64.wrap (o-1) else z else 0)=c:=by
      rw[hw,hcd];split<;>split<;>omega
     rw[hif];refine aK (bP rfl rfl (by rw[lq]) (by simp;omega)) ?_;((conv=>whnf);repeat(refine Xg ?_;conv=>whnf));have hfz:aI (Q.take m)++List.take 1 (List.drop 0 [AV.int .i64 c])=aI (Q.take (m+1)):=by rw[htk];simp[aI]
     refine aM.lendJ bC hRm (.cons (.same _ (.agg' (.cons nA .nil))) (.cons (dT (id:=19) rfl (by simp;omega) hfz (aG _)) .nil)) ?_;rintro r k' k2 ⟨rfl,rfl,rfl⟩;refine⟨_,Gw,G8 _, ?_⟩;((conv=>whnf);repeat(refine Xg ?_;conv=>whnf));exact .mk (m+1) [(0,0),(19,1)] (by omega)
      (aJ _ rfl ⟨⟨0,_,rfl,rfl,.cons (.agg (.cons (.junk _) (.cons (.junk _) (.cons (.junk _) (.cons (.junk _) (.cons (.junk _) (.s (.cons (.junk _) .nil)))))))) .nil⟩,⟨19,_,rfl,rfl,.eq (aG _) hfz⟩,trivial⟩
       ⟨⟨_,rfl,.same _ nr⟩,⟨_,rfl,.same _ (.ip' (.agg' (.cons nA .nil)))⟩,⟨_,rfl,.slE rfl (by simp)⟩,⟨_,rfl,.ptr 0 0 0 0 rfl⟩,trivial⟩) (by omega)
    ·rw[Rp hmr] at hcd;rw[R4 hmr];((conv=>whnf);repeat(refine Xg ?_;conv=>whnf));refine aK (bP rfl rfl (by rw[lq]) (by simp;omega)) ?_;((conv=>whnf);repeat(refine Xg ?_;conv=>whnf));have hfz:aI (Q.take m)++List.take 1 (List.drop 0 [AV.int .i64 0])=aI (Q.take (m+1)):=by rw[htk,hcd];simp[aI]
     refine aM.lendJ bC hRm (.cons (.same _ (.agg' (.cons nA .nil))) (.cons (dT (id:=3) rfl (by simp;omega) hfz (aG _)) .nil)) ?_;rintro r k' k2 ⟨rfl,rfl,rfl⟩;refine⟨_,Gw,G8 _, ?_⟩;((conv=>whnf);repeat(refine Xg ?_;conv=>whnf));exact .mk (m+1) [(0,0),(3,1)] (by omega)
      (aJ _ rfl ⟨⟨0,_,rfl,rfl,.cons (.agg (.cons (.junk _) (.cons (.junk _) (.cons (.junk _) (.cons (.junk _) (.cons (.junk _) (.s (.cons (.junk _) .nil)))))))) .nil⟩,⟨3,_,rfl,rfl,.eq (aG _) hfz⟩,trivial⟩
       ⟨⟨_,rfl,.same _ nr⟩,⟨_,rfl,.same _ (.ip' (.agg' (.cons nA .nil)))⟩,⟨_,rfl,.slE rfl (by simp)⟩,⟨_,rfl,.ptr 0 0 0 0 rfl⟩,trivial⟩) (by omega)
   ·have hme:=hme (by omega);have hmq:m=Q.length:=by omega
    have htq:Q.take m=Q:=by rw[hmq,SD]
    rw[htq];((conv=>whnf);repeat(refine Xg ?_;conv=>whnf));rw[hme];((conv=>whnf);repeat(refine Xg ?_;conv=>whnf));exact bF (r':=.tup [.il 1 (aI Q),.int .i64 0]) (.tup' (.cons (dT (id:=1) rfl (by rw[aE];exact hmq) rfl (aG Q)) (.s .nil))) ⟨rfl,rfl,rfl⟩
set_option maxHeartbeats 16000000
theorem Br{A:List Nd}(h:VT A){p:List Int}(hp:p.length<=1000000000)(s:Bool):∀f,Qu A p s f
 | 0=>fun i a0 L hif _ _ _=>by omega
 | f+1=>Mo h hp s f (Br h hp s f)
def tE(v:bB)(node:Int)(X:List Sp)(code:Int):AV:=match v with
 | .mk a b c d=>.agg [.int .i64 a,.int .i64 b,.str c,.il 4 (aT d),.int .i64 node,.il 3 (bQ X),.int .i64 code]
theorem tQ(v:bB)(node:Int)(X:List Sp)(code:Int):NN (tE v node X code):=by
 obtain⟨a,b,c,d⟩:=v;exact .agg' (.cons nn (.cons nn (.cons nn (.cons (.il' (aV _)) (.cons nn (.cons (.il' (dQ _)) (.cons nn .nil)))))))
def Qq(p:List Int)(s:Bool)(r0:yO):AV->aS->Nat->Prop:=fun r m k=>m=[]/\k=0/\((r0.stop = -1/\∃X:List Sp,X.length<=r0.spans.length/\(s=true->X=r0.spans)/\r=tE r0.val (-1) X 0)∨(∃n:Nat,r0.stop=(n:Int)/\r=tE vZ n [] 0)∨(r0.stop = -2/\r=tE vZ (-1) [] 11))
def RC(A:List Nd)(p:List Int):AV:=.fn (.func 128) [] [.ptr 6 0 0,.ip (.il 1 (aI p)),.ip (.agg [.il 12 (aR A)])]
def RA(A:List Nd)(s:Bool):AV:=.fn (.func 129) [] [.ip (.agg [.il 12 (aR A)]),.ip (wk A),.ip (.bool s),.ip (.il 1 (kB (cU A))),.ptr 7 0 0,.ptr 8 0 0,.ptr 6 0 0,.ptr 3 0 0]
def Pg(A:List Nd)(p:List Int)(s:Bool)(a:Nat)(rid n:Nat)(xs:List AV):aS:=
 [(6,.row 3 1 [.int .i64 (a:Int)]),(3,.row 112 7 [Pj rid n]),(7,.row 128 1 [RC A p]),(8,.row 94 1 [RA A s]),(rid,.row 138 3 xs)]
theorem K3{mem:aS}{σ:List (Nat × Nat)}{a b n m:Nat}(h:lk σ a=some b)(e:n=m):Da mem σ (Pj a n) (Pj b m):=
 .agg (.s (.s (.s (.s (.s (.cons (.slE h e) (.s .nil)))))))
theorem QF{mem:aS}{σ:List (Nat × Nat)}{A:List Nd}{p:List Int}(h:lk σ 6=some 0):Cv mem σ (RC A p) (Ov A p):=
 .fn _ _ _ _ _ rfl rfl (by simp) (iL.cons (.ptr 6 0 0 0 h) (.cons (.same _ (dG p)) (.cons (.same _ (pG A)) .nil))).2
theorem QX{mem:aS}{σ:List (Nat × Nat)}{A:List Nd}{p:List Int}(h:lk σ 0=some 6):Cv mem σ (Ov A p) (RC A p):=
 .fn _ _ _ _ _ rfl rfl (by simp) (iL.cons (.ptr 0 6 0 0 h) (.cons (.same _ (dG p)) (.cons (.same _ (pG A)) .nil))).2
theorem QV{mem:aS}{σ:List (Nat × Nat)}{A:List Nd}{s:Bool}(h0:lk σ 6=some 0)(h1:lk σ 3=some 1)(h2:lk σ 7=some 2)(h3:lk σ 8=some 3):Cv mem σ (RA A s) (D6 A s):=
 .fn _ _ _ _ _ rfl rfl (by simp) (iL.cons (.same _ (pG A)) (.cons (.same _ (qH A)) (.s (.cons (.same _ (Cm A)) (.cons (.ptr 7 2 0 0 h2) (.cons (.ptr 8 3 0 0 h3) (.cons (.ptr 6 0 0 0 h0) (.cons (.ptr 3 1 0 0 h1) .nil)))))))).2
theorem Pm{mem:aS}{σ:List (Nat × Nat)}{A:List Nd}{s:Bool}(h0:lk σ 0=some 6)(h1:lk σ 1=some 3)(h2:lk σ 2=some 7)(h3:lk σ 3=some 8):Cv mem σ (D6 A s) (RA A s):=
 .fn _ _ _ _ _ rfl rfl (by simp) (iL.cons (.same _ (pG A)) (.cons (.same _ (qH A)) (.s (.cons (.same _ (Cm A)) (.cons (.ptr 2 7 0 0 h2) (.cons (.ptr 3 8 0 0 h3) (.cons (.ptr 0 6 0 0 h0) (.cons (.ptr 1 3 0 0 h1) .nil)))))))).2
theorem LY{A:List Nd}{p:List Int}{s:Bool}{a b:Nat}{L:List Sp}(h:a=b):cH (pT A p s a L 5 []) [(0,6),(1,3),(2,7),(3,8),(5,10)] (Pg A p s b 10 L.length (bQ L)):=
 ⟨⟨0,_,rfl,rfl,.cons (.one rfl rfl (.int (by rw[h]))) .nil⟩,⟨1,_,rfl,rfl,.cons (K3 rfl rfl) .nil⟩,⟨2,_,rfl,rfl,.cons (.one rfl rfl (QX rfl)) .nil⟩,⟨3,_,rfl,rfl,.cons (.one rfl rfl (Pm rfl rfl rfl rfl)) .nil⟩,⟨5,_,rfl,rfl,.same (dQ _)⟩,trivial⟩
theorem AO{mem:aS}{σ:List (Nat × Nat)}{id:Nat}{t:TypeId}{sz:Nat}{c v:AV}(h1:lk mem id=some (.row t sz [c]))(h2:lk σ id=none)(hc:c.cells=[c])(hv:v.cells=[v])(h:Cv mem σ c v):Cv mem σ (.ptr id 0 0) (.ip v):=
 J6 h1 h2 rfl (by rw[hc];rfl) hv h
structure O9(rs:List ResultVar)(v:AV)(Q:AV->aS->Nat->Prop)(Qp:Value->aS->Nat->Prop)(e:Exit)(s:St):Prop where
 run:BQ prog [] (Ci prog [] 0) rs Q Qp e s (some v)
noncomputable def Gt:List ResultVar:=(Tryz.f105).results.toList
def Lm:AV:=.fn (.func 126) [] [.ptr 3 0 0]
theorem lY{sl:List (Nat × AV)}{M:aS}{nx nt:Nat}{Q:AV->aS->Nat->Prop}{Qp:Value->aS->Nat->Prop}(h:match xB prog Gt ⟨sl,M,nx,nt⟩ with|some r=>Q r M nx|none=>False):O9 Gt Lm Q Qp .ret ⟨sl,M,nx,nt⟩:=by
 refine⟨?_⟩;have e:BQ prog [] (Ci prog [] 0) Gt Q Qp .ret ⟨sl,M,nx,nt⟩ (some Lm)=(match xB prog Gt ⟨sl,M,nx,nt⟩ with|some r=>Q r M nx|none=>False):=by kernel_rfl
 rw[e];exact h
theorem tX{a3 a4 a5:AV}{rest:List (Nat × AV)}{A:List Nd}{p:List Int}{s:Bool}{a n0:Nat}{xs:List AV}{nt:Nat}{x:Value}{n c:Int}{Q:AV->aS->Nat->Prop}{Qp:Value->aS->Nat->Prop}(hx:x=u6 n c)
  (h:∀M:aS,Q (.agg [.int .i64 0,.int .i64 0,.str [],.nsl,.int .i64 n,.nsl,.int .i64 c]) M 12):O9 Gt Lm Q Qp (.panic [pe x]) ⟨(3,a3)::(4,a4)::(5,a5)::(6,.ptr 3 0 0)::rest,Pg A p s a 10 n0 xs,11,nt⟩:=by
 subst hx;refine⟨?_⟩;have e:BQ prog [] (Ci prog [] 0) Gt Q Qp (.panic [pe (u6 n c)]) ⟨(3,a3)::(4,a4)::(5,a5)::(6,.ptr 3 0 0)::rest,Pg A p s a 10 n0 xs,11,nt⟩ (some Lm) =
  Q (.agg [.int .i64 0,.int .i64 0,.str [],.nsl,.int .i64 n,.nsl,.int .i64 c]) [(11,.row 162 2 [.agg [.int .i64 n,.int .i64 c]]),(6,.row 3 1 [.int .i64 (a:Int)]),(3,.row 112 7 [.agg [.int .i64 0,.int .i64 0,.str [],.nsl,.int .i64 n,.nsl,.int .i64 c]]),(7,.row 128 1 [RC A p]),(8,.row 94 1 [RA A s]),(10,.row 138 3 xs)] 12:=by kernel_rfl
 rw[e];exact h _
theorem Pk{A:List Nd}{p:List Int}(h:Kk A p)(s:Bool):aM prog [] 105 [.agg [.il 12 (aR A)],.il 1 (aI p),.bool s] [] 0 (Qq p s (gI p (gF A p))):=by
 have hp:=h.tree.pos;have hl:=h.tree.tin.len;have hpl:=h.len;have hC:=h.cnt A.length (A.length-1) 0 (by omega) (by omega);have hF:=Br h.tree (p:=p) (by omega) s A.length (A.length-1) 0 [] (by omega) (by omega) (TC _) (by simpa using hC);have hN:=Qx h.tree;have hP:=Ms h.tree;have hu:=Au A p;have nA:NN (.il 12 (aR A)):=.il' (aQ A);have np:NN (.il 1 (aI p)):=.il' (aG p);have lp:=aE p;have lA:=bD A;have hw:IntKind.i64.wrap (((aR A).length:Int)-1)=((A.length-1:Nat):Int):=by rw[bD,bY ⟨by omega,by omega⟩];omega
 rw[show a6 A p A.length (A.length-1) 0=gF A p from rfl] at hF;generalize hR0:gF A p=R at *;clear hR0;obtain⟨⟨v1,v2,v3,v4⟩,u,st,sp⟩:=R;refine bO.toC (Qp:=fun _ _ _=>False) ?_ (fun _ _ _ h=>h);refine zX (H:=Ci prog [] 0) bC func105 rfl ?_
 conv=>whnf
 refine m7.seq (m7.of rfl ?_);((conv=>whnf);repeat(refine Xg ?_;conv=>whnf));refine m7.seq (m7.of rfl ?_);have dA:(((aR A).length:Int) == 0)=false:=by rw[lA];exact beq_eq_false_iff_ne.2 (by omega)
 ((conv=>whnf);repeat(refine Xg ?_;conv=>whnf));rw[dA];((conv=>whnf);repeat(refine Xg ?_;conv=>whnf));refine m7.seq (m7.region ?_)
 conv=>whnf
 refine aD ?_
 dsimp only
 refine eA.conv (s':=⟨[(3,.ip (.agg [.il 12 (aR A)])),(4,.ip (.il 1 (aI p))),(5,.ip (.bool s)),(6,.ptr 3 0 0)],[(3,.row 112 7 [.agg [.int .i64 0,.int .i64 0,.str [],.nsl,.int .i64 0,.nsl,.int .i64 0]])],4,39⟩) bC
  (aJ [(3,3)] rfl ⟨⟨3,_,rfl,rfl,.same (.cons (.agg' (.cons nn (.cons nn (.cons nn (.cons nn (.cons nn (.cons nn (.cons nn .nil)))))))) .nil)⟩,trivial⟩
   ⟨⟨_,rfl,J6 (id:=0) rfl rfl rfl rfl rfl (.same _ nA)⟩,⟨_,rfl,AO (id:=1) rfl rfl rfl rfl (.same _ np)⟩,⟨_,rfl,AO (id:=2) rfl rfl rfl rfl (.same _ nn)⟩,⟨_,rfl,.ptr 3 3 0 0 rfl⟩,trivial⟩) ?_
 refine eA.mono (Q:=O9 Gt Lm (lE 0 (Qq p s (gI p ⟨.mk v1 v2 v3 v4,u,st,sp⟩))) (IJ 0 fun _ _ _=>False)) ?_ (fun e s h=>h.run);((conv=>whnf);repeat(refine Yg ?_;conv=>whnf));refine hN.goP ?_ (.cons (.agg' (.cons nA .nil)) .nil) (eM A);((conv=>whnf);repeat(refine Yg ?_;conv=>whnf));refine hP.goP ?_ (.cons (.agg' (.cons nA .nil)) (.cons (eM A) .nil)) (.il' (hZ _));((conv=>whnf);repeat(refine Yg ?_;conv=>whnf));rw[hw];refine bO.ph 138 3 ?_;refine bO.pre bC [(3,3),(6,6),(7,7),(8,8),(9,9)] (args':=[.int .i64 ((A.length-1:Nat):Int),.ip (.agg [.il 12 (aR A)]),.ip (wk A),.ip (.bool s),.ip (.il 1 (kB (cU A))),.ptr 7 0 0,.ptr 8 0 0,.ptr 6 0 0,.ptr 3 0 0])
  (mem':=Pg A p s 0 9 0 []) rfl
  ⟨⟨6,_,rfl,rfl,.cons (.one rfl rfl (.int rfl)) .nil⟩,⟨3,_,rfl,rfl,.cons (.agg (.s (.s (.s (.s (.s (.cons (.nslk 9 9 _ rfl rfl) (.s .nil)))))))) .nil⟩,
   ⟨7,_,rfl,rfl,.cons (.one rfl rfl (.fn _ _ _ _ _ rfl rfl (by simp) (iL.cons (.ptr 6 6 0 0 rfl) (.cons (.same _ (dG p)) (.cons (.same _ (pG A)) .nil))).2)) .nil⟩,
   ⟨8,_,rfl,rfl,.cons (.one rfl rfl (.fn _ _ _ _ _ rfl rfl (by simp) (iL.cons (.same _ (pG A)) (.cons (AO (id:=4) rfl rfl rfl rfl (.same _ (eM A))) (.s (.cons (AO (id:=5) rfl rfl rfl rfl (.same _ (.il' (hZ _)))) (.cons (.ptr 7 7 0 0 rfl) (.cons (.ptr 8 8 0 0 rfl) (.cons (.ptr 6 6 0 0 rfl) (.cons (.ptr 3 3 0 0 rfl) .nil)))))))).2)) .nil⟩,
   ⟨9,_,rfl,rfl,.nil⟩,trivial⟩
  (.s (.cons (.same _ (pG A)) (.cons (AO (id:=4) rfl rfl rfl rfl (.same _ (eM A))) (.s (.cons (AO (id:=5) rfl rfl rfl rfl (.same _ (.il' (hZ _)))) (.cons (.ptr 7 7 0 0 rfl) (.cons (.ptr 8 8 0 0 rfl) (.cons (.ptr 6 6 0 0 rfl) (.cons (.ptr 3 3 0 0 rfl) .nil))))))))) ?_
 refine bO.useN bC [(6,0),(3,1),(7,2),(8,3),(9,4)] hF rfl (.s (.cons (.same _ (pG A)) (.cons (.same _ (qH A)) (.s (.cons (.same _ (Cm A)) (.cons (.ptr 7 2 0 0 rfl) (.cons (.ptr 8 3 0 0 rfl) (.cons (.ptr 6 0 0 0 rfl) (.cons (.ptr 3 1 0 0 rfl) .nil)))))))))
  ⟨⟨6,_,rfl,rfl,.same (.cons nn .nil)⟩,⟨3,_,rfl,rfl,.cons (K3 rfl rfl) .nil⟩,⟨7,_,rfl,rfl,.cons (.one rfl rfl (QF rfl)) .nil⟩,⟨8,_,rfl,rfl,.cons (.one rfl rfl (QV rfl rfl rfl rfl)) .nil⟩,⟨9,_,rfl,rfl,.nil⟩,trivial⟩ rfl ?_ ?_
 ·rintro r m k ⟨f1,rfl,X,hX,hXs,rfl,rfl⟩;have f1:st = -1:=f1;subst f1;refine⟨[(0,6),(1,3),(2,7),(3,8),(5,10)],.agg [.int .i64 v1,.int .i64 v2,.str v3,.il 4 (aT v4)],Pg A p s u 10 X.length (bQ X),11,.same _ (bM (.mk v1 v2 v3 v4)),LY (SF _),rfl, ?_⟩;have hX:X.length<=sp.length:=hX;have hXs:s=true->X=sp:=hXs;have hu:u<=p.length:=hu;have d1:decide ((u:Int)<((aI p).length:Int))=decide (u<p.length):=by rw[lp];exact SB.2 (by omega)
  ((conv=>whnf);repeat(refine Yg ?_;conv=>whnf));rw[d1];by_cases hup:u<p.length
  ·rw[Rs hup];((conv=>whnf);repeat(refine Yg ?_;conv=>whnf));refine lY ?_
   conv=>whnf
   exact bF (r':=tE vZ (-1) [] 11) (.agg' (.s (.s (.s (.cons (.nil 4) (.s (.cons (.nil 3) (.s .nil)))))))) (by unfold gI;rw[Rx ⟨rfl,hup⟩];exact⟨rfl,rfl,.inr (.inr ⟨rfl,rfl⟩)⟩)
  ·rw[R4 hup];((conv=>whnf);repeat(refine Yg ?_;conv=>whnf));refine lY ?_
   conv=>whnf
   exact bF (r':=tE (.mk v1 v2 v3 v4) (-1) X 0) (.agg' (.s (.s (.s (.cons (.same _ (.il' (aV _))) (.s (.cons (dT (id:=10) rfl (c8 X).symm rfl (dQ X)) (.s .nil)))))))) (by unfold gI;rw[Rp (fun e=>hup e.2)];exact⟨rfl,rfl,.inl ⟨rfl,X,hX,hXs,rfl⟩⟩)
 ·rintro x m k ⟨hx,a,L',rfl,rfl⟩;have hx:(∃n:Nat,st=(n:Int)/\x=u6 n 0)∨(st = -2/\x=u6 (-1) 11):=hx;refine⟨[(0,6),(1,3),(2,7),(3,8),(5,10)],Pg A p s a 10 L'.length (bQ L'),11,LY rfl,rfl, ?_⟩;cases hx with
  | inl hx=>
   obtain⟨n,h1,h2⟩:=hx;refine tX h2 (fun M=>?_);exact bF (r':=tE vZ n [] 0) (.agg' (.s (.s (.s (.cons (.nil 4) (.s (.cons (.nil 3) (.s .nil)))))))) (by unfold gI;rw[Rp (fun e=>by have:=e.1;simp only at this;omega)];exact⟨rfl,rfl,.inr (.inl ⟨n,h1,rfl⟩)⟩)
  | inr hx=>
   refine tX hx.2 (fun M=>?_);exact bF (r':=tE vZ (-1) [] 11) (.agg' (.s (.s (.s (.cons (.nil 4) (.s (.cons (.nil 3) (.s .nil)))))))) (by unfold gI;rw[Rp (fun e=>by have:=e.1;simp only at this;omega)];exact⟨rfl,rfl,.inr (.inr ⟨hx.1,rfl⟩)⟩)
theorem Pa(p:List Int)(s:Bool):a8 prog [] 105 [.agg [.il 12 []],.il 1 (aI p),.bool s] (tE vZ (-1) [] 11):=by
 refine bO.toC (Qp:=fun _ _ _=>False) ?_ (fun _ _ _ h=>h);refine zX (H:=Ci prog [] 0) bC func105 rfl ?_
 conv=>whnf
 refine m7.seq (m7.of rfl ?_);((conv=>whnf);repeat(refine Xg ?_;conv=>whnf));refine m7.seq (m7.of rfl ?_);((conv=>whnf);repeat(refine Xg ?_;conv=>whnf));exact bF (r':=tE vZ (-1) [] 11) (.agg' (.s (.s (.s (.cons (.nil 4) (.s (.cons (.nil 3) (.s .nil)))))))) ⟨rfl,rfl,rfl⟩
theorem Oa{A:List Nd}{p:List Int}(h:Je A p)(s:Bool):aM prog [] 81 [.agg [.il 12 (aR A)],.il 1 (aI p),.bool s] [] 0 fun r m k=>(∃(v:bB) (node c:Int) (S:List Sp),r = .tup [tE v node S c,.int .i64 (bV A p)]/\v=kY A p/\(s=true->S=bW A p))/\m=[]/\k=0:=by
 have hv:=O7 A ⟨h.tin.ok,h.tin.val,h.tin.vals,fun x hx=>by have:=h.tin.vlen x hx;omega,fun x hx=>by have:=h.tin.klen x hx;omega⟩;have nA:NN (.il 12 (aR A)):=.il' (aQ A);have np:NN (.il 1 (aI p)):=.il' (aG p);have hE:bV A p=if cP A≠0 then cP A else if A.length=0 then 11 else if (gI p (gF A p)).stop = -1 then 0 else 11:=rfl
 have hS:bW A p=if bV A p=0 then(gI p (gF A p)).spans else []:=by rw[(uJ _ _).2];rfl
 have hV:kY A p=if bV A p=0 then(gI p (gF A p)).val else vZ:=by rw[(uJ _ _).1];rfl
 have hR:=fun(e:cP A=0) (hp:0<A.length)=>Pk (h.pth ⟨h.tin,e,hp⟩) s
 have hR0:A.length=0->a8 prog [] 105 [.agg [.il 12 (aR A)],.il 1 (aI p),.bool s] (tE vZ (-1) [] 11):=fun e=>by
  rw[R6 e];exact Pa p s
 have lA:=bD A;generalize bW A p=S at *;generalize kY A p=V at *;generalize bV A p=E at *;generalize cP A=vl at *;refine aL bC func81 rfl ?_;((conv=>whnf);repeat(refine Xg ?_;conv=>whnf));refine hv.go ?_ (.cons (.agg' (.cons nA .nil)) .nil) nn;((conv=>whnf);repeat(refine Xg ?_;conv=>whnf));refine aO (fun hb=>?_) (fun hb=>?_)
 ·have h0:vl≠0:=by simpa using hb
  rw[Rx h0] at hE;rw[Rp (by omega)] at hS hV;rw[hS,hV,hE];((conv=>whnf);repeat(refine Xg ?_;conv=>whnf));exact bF (r':=.tup [tE vZ 0 [] 0,.int .i64 vl]) (.tup' (.cons (.agg' (.s (.s (.s (.cons (.nil 4) (.s (.cons (.nil 3) (.s .nil)))))))) (.s .nil))) ⟨⟨vZ,0,0,[],rfl,rfl,fun _=>rfl⟩,rfl,rfl⟩
 ·have h0:vl=0:=by simpa using hb
  subst h0;have hR:=hR rfl;rw[Rp (by simp)] at hE;((conv=>whnf);repeat(refine Xg ?_;conv=>whnf));by_cases h0:A.length=0
  ·rw[Rx h0] at hE;rw[Rp (by omega)] at hS hV;rw[hS,hV,hE];refine(hR0 h0).go ?_ (.cons (.agg' (.cons nA .nil)) (.cons np (.cons nn .nil))) (tQ _ _ _ _);((conv=>whnf);repeat(refine Xg ?_;conv=>whnf));exact bF (r':=.tup [tE vZ 0 [] 0,.int .i64 11]) (.tup' (.cons (.agg' (.s (.s (.s (.cons (.nil 4) (.s (.cons (.nil 3) (.s .nil)))))))) (.s .nil))) ⟨⟨vZ,0,0,[],rfl,rfl,fun _=>rfl⟩,rfl,rfl⟩
  ·rw[Rp h0] at hE;have hR:=hR (by omega);generalize gI p (gF A p)=R at *;obtain⟨⟨v1,v2,v3,v4⟩,u,st,sp⟩:=R;simp only at hE hS hV;refine aM.go0 hR ?_ (.cons (.agg' (.cons nA .nil)) (.cons np (.cons nn .nil)));rintro r m k ⟨rfl,rfl,hr⟩;rcases hr with⟨h1,X,hX,hXs,rfl⟩|⟨n,h1,rfl⟩|⟨h1,rfl⟩
   ·simp only at h1 hX hXs;rw[Rx h1] at hE;rw[hE,Rx rfl] at hS hV;rw[hS,hV,hE];refine⟨_,.same _ (tQ (.mk v1 v2 v3 v4) _ _ _), ?_⟩;((conv=>whnf);repeat(refine Xg ?_;conv=>whnf));exact bF (r':=.tup [tE (.mk v1 v2 v3 v4) (-1) X 0,.int .i64 0]) (.same _ (.tup' (.cons (tQ (.mk v1 v2 v3 v4) _ _ _) (.cons nn .nil)))) ⟨⟨.mk v1 v2 v3 v4,-1,0,X,rfl,rfl,hXs⟩,rfl,rfl⟩
   ·simp only at h1;rw[Rp (by omega)] at hE;rw[Rp (by omega)] at hS hV;rw[hS,hV,hE];refine⟨_,.same _ (tQ vZ _ _ _), ?_⟩;((conv=>whnf);repeat(refine Xg ?_;conv=>whnf));exact bF (r':=.tup [tE vZ 0 [] 0,.int .i64 11]) (.tup' (.cons (.agg' (.s (.s (.s (.cons (.nil 4) (.s (.cons (.nil 3) (.s .nil)))))))) (.s .nil))) ⟨⟨vZ,0,0,[],rfl,rfl,fun _=>rfl⟩,rfl,rfl⟩
   ·simp only at h1;rw[Rp (by omega)] at hE;rw[Rp (by omega)] at hS hV;rw[hS,hV,hE];refine⟨_,.same _ (tQ vZ _ _ _), ?_⟩;((conv=>whnf);repeat(refine Xg ?_;conv=>whnf));exact bF (r':=.tup [tE vZ 0 [] 0,.int .i64 11]) (.tup' (.cons (.agg' (.s (.s (.s (.cons (.nil 4) (.s (.cons (.nil 3) (.s .nil)))))))) (.s .nil))) ⟨⟨vZ,0,0,[],rfl,rfl,fun _=>rfl⟩,rfl,rfl⟩
theorem OR{A:List Nd}{p:List Int}(h:Je A p):a8 prog [] 57 [.agg [.il 12 (aR A)],.il 1 (aI p)] (.tup [.il 3 (bQ (bW A p)),.int .i64 (bV A p)]):=by
 have hW:=Oa h true;have nA:NN (.il 12 (aR A)):=.il' (aQ A);have np:NN (.il 1 (aI p)):=.il' (aG p);generalize bW A p=S at *;generalize kY A p=V at *;generalize bV A p=E at *;refine aL bC func57 rfl ?_;((conv=>whnf);repeat(refine Xg ?_;conv=>whnf));refine aM.go0 hW ?_ (.cons (.agg' (.cons nA .nil)) (.cons np (.cons nn .nil)));rintro r m k ⟨⟨v,node,c,S',rfl,-,hs⟩,rfl,rfl⟩;have hs:=hs rfl;subst hs;obtain⟨v1,v2,v3,v4⟩:=v;refine⟨_,.same _ (.tup' (.cons (tQ (.mk v1 v2 v3 v4) node S' c) (.cons nn .nil))), ?_⟩;((conv=>whnf);repeat(refine Xg ?_;conv=>whnf));repeat((first|refine aB.2 ?_|refine aD ?_);(conv=>whnf);repeat(refine Xg ?_;conv=>whnf))
 exact bF (r':=.tup [.il 3 (bQ S'),.int .i64 E]) (.same _ (.tup' (.cons (.il' (dQ _)) (.cons nn .nil)))) ⟨rfl,rfl,rfl⟩
set_option maxHeartbeats 16000000
theorem NK(a b:List Int):decide (a=b)=(dE a b == 0):=by
 by_cases h:a=b
 ·subst h;simp[DH]
 ·rw[R4 h];have:dE a b≠0:=fun e=>h (HC _ _ e)
  simpa using this
theorem Qw(l m:List Int)(hl:l.length<=4611686018427387904):a8 prog [] 25 [.il 1 (aI l),.il 1 (aI m)] (.bool (dE l m == 0)):=by
 rw[←NK];refine aL bC func25 rfl ?_;((conv=>whnf);repeat(refine Xg ?_;conv=>whnf));refine aO (fun h=>?_) (fun h=>?_)
 ·have h1:l.length≠m.length:=by rw[aE,aE] at h;simp at h;omega
  rw[R4 (fun e=>h1 (by rw[e]))];((conv=>whnf);repeat(refine Xg ?_;conv=>whnf));exact aA nn ⟨rfl,rfl,rfl⟩
 ·have h1:l.length=m.length:=by rw[aE,aE] at h;simp at h;omega
  ((conv=>whnf);repeat(refine Xg ?_;conv=>whnf));refine a7.at bC (fun i:Nat=>i<=l.length/\decide (l=m)=decide (l.drop i=m.drop i)) (fun i=>⟨[(0,.il 1 (aI l)),(1,.il 1 (aI m)),(12,.int .i64 l.length),(13,.int .i64 i)],[],0,26⟩) (fun i=>l.length-i) 0 [] ⟨by simp,by simp⟩
   (bL ⟨⟨_,rfl,.same _ (.il' (aG _))⟩,⟨_,rfl,.same _ (.il' (aG _))⟩,⟨_,rfl,.int (by rw[aE])⟩,aH,trivial⟩) ?_
  rintro i ⟨hi,hs⟩;((conv=>whnf);repeat(refine Xg ?_;conv=>whnf));refine aO (fun hb=>?_) (fun hb=>?_)
  ·have hil:i<l.length:=by simpa using hb
   have ep:(aI l)[((i:Nat):Int).toNat]? = some (.int .i64 l[i]):=by simp[bG,Rm hil]
   have eq:(aI m)[((i:Nat):Int).toNat]? = some (.int .i64 (m[i])):=by simp[bG,Rm (show i<m.length by omega)]
   rw[SH hil,SH (show i<m.length by omega)] at hs;generalize l[i]=p at ep hs;generalize m[i]=q at eq hs;((conv=>whnf);repeat(refine Xg ?_;conv=>whnf));repeat((first|refine aC ep ?_|refine aC eq ?_|refine aD ?_);(conv=>whnf);repeat(refine Xg ?_;conv=>whnf))
   refine aO (fun h=>?_) (fun h=>?_)
   ·have hne:p≠q:=by simpa using h
    rw[hs,R4 (fun e=>hne (List.cons.inj e).1)];((conv=>whnf);repeat(refine Xg ?_;conv=>whnf));exact aA nn ⟨rfl,rfl,rfl⟩
   ·have hne:p=q:=by simpa using h
    subst hne;((conv=>whnf);repeat(refine Xg ?_;conv=>whnf));exact .mk (i+1) [] ⟨by omega,by rw[hs];simp⟩ (bL ⟨⟨_,rfl,.same _ (.il' (aG _))⟩,⟨_,rfl,.same _ (.il' (aG _))⟩,aH,⟨_,rfl,.wo⟩,trivial⟩) (by omega)
  ·have hil:i=l.length:=by simp at hb;omega
   rw[hil,TZ,h1,TZ] at hs;rw[hs];((conv=>whnf);repeat(refine Xg ?_;conv=>whnf));exact aA nn ⟨rfl,rfl,rfl⟩
theorem PQ{a b c:Bool}{n m k:Nat}(ha:a=true)(hb:b=true)(hc:c=true)(h1:0<n)(h2:m<=k):(a && (b && (c && (Nat.blt 0 n && Nat.ble m k))))=true:=by
 rw[ha,hb,hc,Ru h2,show Nat.blt 0 n=true from Ru h1];rfl
theorem C7{l:List (List Int)}{k n:Nat}(h:k<l.length)(hn:n=l.length):∃p,p∈l/\l[k]? = some p/\(aZ l)[0+(k:Int).toNat]? = some (.il 1 (aI p))/\Nat.blt (k:Int).toNat n=true:=
 ⟨l[k],SI h,Rm h,by rw[SF,Rq,pL,Rm h];rfl,Ru (by simp;omega)⟩
theorem JQ(l:List (List Int))(k:Nat)(p:List Int):aZ (l.set k p)=(aZ l).set k (.il 1 (aI p)):=by simp[aZ,Ti]
theorem L0(l:List (List Int))(h0:0<l.length)(hl:l.length<=5120030000001)(hok:oZ l) :
  aM prog [] 24 [.sl 0 0 l.length,.fn (.func 25) [] []] [(0,.row 22 1 (aZ l))] 1 fun r m n=>
   n=1/\∃ys,r = .sl 0 0 (lR l l.length).length/\m=[(0,.row 22 1 ys)]/\g9 ys/\ys.take (lR l l.length).length=aZ (lR l l.length)/\(lR l l.length).length<=ys.length:=by
 have nf:NN (.fn (.func 25) [] []):=.fn _ _ _ (by simp) (by simp);have hlen:=bA l;have hd1:decide (((l.length:Nat):Int)<2)=decide (l.length<2):=SB.2 (by omega);refine aL bC func24 rfl ?_;have hall:(∀j,j<l.length->rH l j=true)->lR l l.length=l:=fun h=>by rw[Bz _ (R2 _) h,SD]
 ((conv=>whnf);repeat(refine Xg ?_;conv=>whnf));rw[hd1];by_cases h2:l.length<2
 ·rw[Rs h2];have he:=hall fun j hj=>by
   have:j=0:=by omega
   subst this;rfl
  rw[he];((conv=>whnf);repeat(refine Xg ?_;conv=>whnf));exact bK (r':=.sl 0 0 l.length) (m':=[(0,.row 22 1 (aZ l))]) (n':=1) [(0,0)] rfl ⟨⟨0,_,rfl,rfl,.same (aU _)⟩,trivial⟩ (.sl 0 0 0 _ rfl) ⟨rfl,aZ l,rfl,rfl,aU l,by rw[SA (by omega)],by omega⟩
 ·rw[R4 h2];((conv=>whnf);repeat(refine Xg ?_;conv=>whnf));refine a7.at bC (fun p:Nat=>p+1<=l.length/\∀j,j<p+1->rH l j=true)
   (fun p=>⟨[(0,.sl 0 0 l.length),(1,.fn (.func 25) [] []),(5,.int .i64 ((p+1:Nat):Int))],[(0,.row 22 1 (aZ l))],1,66⟩)
   (fun p=>l.length-p) 0 [(0,0)] ⟨by omega,fun j hj=>by have:j=0:=(by omega);subst this;rfl⟩
   (aJ _ rfl ⟨⟨0,_,rfl,rfl,.same (aU _)⟩,trivial⟩ ⟨⟨_,rfl,.slE rfl rfl⟩,⟨_,rfl,.same _ nf⟩,aH,trivial⟩) ?_
  rintro p ⟨p1,p2⟩;have hdp:decide (((p+1:Nat):Int)<(l.length:Int))=decide (p+1<l.length):=SB.2 (by omega);by_cases hp:p+1<l.length
  ·have hw:IntKind.i64.wrap (((p+1:Nat):Int)-1)=(p:Int):=by rw[bY ⟨by omega,by omega⟩];omega
   obtain⟨a,am,ag,ea,ba⟩:=C7 (l:=l) (k:=p) (n:=l.length) (by omega) rfl;obtain⟨b,bm,bg,eb,bb⟩:=C7 (l:=l) (k:=p+1) (n:=l.length) (by omega) rfl;have hc:=Qw b a (by have:=hok _ bm;omega);have hkeep:rH l (p+1) = !(dE b a == 0):=by simp only[rH];rw[bg,ag]
   generalize (dE b a == 0)=c at *;((conv=>whnf);repeat(refine Xg ?_;conv=>whnf));rw[hdp,Rs hp];((conv=>whnf);repeat(refine Xg ?_;conv=>whnf));repeat((first|refine aK bb ?_|refine aC eb ?_);(conv=>whnf);repeat(refine Xg ?_;conv=>whnf))
   have hz0:decide (0<=(p:Int))=true:=Rs (by omega);rw[hw,hz0];((conv=>whnf);repeat(refine Xg ?_;conv=>whnf));repeat((first|refine aK ba ?_|refine aC ea ?_|refine aB.2 ?_|refine aD ?_);(conv=>whnf);repeat(refine Xg ?_;conv=>whnf))
   refine hc.go ?_ (.cons (.il' (aG b)) (.cons (.il' (aG a)) .nil)) nn;((conv=>whnf);repeat(refine Xg ?_;conv=>whnf));repeat((first|refine aB.2 ?_|refine aD ?_);(conv=>whnf);repeat(refine Xg ?_;conv=>whnf))
   cases c with
   | false=>
    ((conv=>whnf);repeat(refine Xg ?_;conv=>whnf));exact .mk (p+1) [(0,0)] ⟨by omega,fun j hj=>by
      rcases R9 j (p+1) with h|h
      ·exact p2 j h
      ·have:j=p+1:=by omega
       rw[this,hkeep];rfl⟩
     (aJ _ rfl ⟨⟨0,_,rfl,rfl,.same (aU _)⟩,trivial⟩ ⟨⟨_,rfl,.slE rfl rfl⟩,⟨_,rfl,.same _ nf⟩,⟨_,rfl,.wo⟩,trivial⟩) (by omega)
   | true=>
    ((conv=>whnf);repeat(refine Xg ?_;conv=>whnf));refine aK (i8 (by simp;omega) (by omega) (by omega)) ?_;((conv=>whnf);repeat(refine Xg ?_;conv=>whnf));have ho:0+((p+1:Nat):Int).toNat=p+1:=by omega
    have hn:l.length-((p+1:Nat):Int).toNat=l.length-(p+1):=by omega
    rw[ho,hn];have hfst:lR l (p+1)=l.take (p+1):=Bz _ (by omega) p2;have hded:lR l (p+1+1)=l.take (p+1):=by
     rw[lR,bg];simp only;rw[Rp (by rw[hkeep];simp),hfst]
    refine a7.at bC (fun x:Nat × List (List Int) × Nat=>x.1+1<=l.length-(p+1)/\x.2.1.length=l.length/\x.2.1.take x.2.2=lR l (p+1+(x.1+1))/\x.2.1.drop (p+1+x.1)=l.drop (p+1+x.1)/\x.2.2<=p+1+x.1)
     (fun x=>⟨[(0,.sl 0 0 l.length),(1,.fn (.func 25) [] []),(5,.int .i64 x.2.2),(6,.sl 0 (p+1) (l.length-(p+1))),(7,.int .i64 ((x.1+1:Nat):Int))],[(0,.row 22 1 (aZ x.2.1))],1,66⟩)
     (fun x=>l.length-x.1) (0,l,p+1) [(0,0)] ⟨by simp only;omega,rfl,by simp only;exact hded.symm,rfl,by simp only;omega⟩
     (aJ _ rfl ⟨⟨0,_,rfl,rfl,.same (aU _)⟩,trivial⟩ ⟨⟨_,rfl,.slE rfl rfl⟩,⟨_,rfl,.same _ nf⟩,aH,⟨_,rfl,.slE rfl rfl⟩,aH,trivial⟩) ?_
    clear ea ba eb bb hc hkeep ag bg am bm;rintro⟨q,z,c⟩ ⟨q1,q2,q3,q4,q5⟩;simp only at q1 q2 q3 q4 q5 ⊢;have hzl:=bA z;have hdq:decide (((q+1:Nat):Int)<((l.length-(p+1):Nat):Int))=decide (q+1<l.length-(p+1)):=SB.2 (by omega);by_cases hq:q+1<l.length-(p+1)
    ·have hw1:IntKind.i64.wrap (((q+1:Nat):Int)-1)=(q:Int):=by rw[bY ⟨by omega,by omega⟩];omega
     have hw2:IntKind.i64.wrap ((c:Int)+1)=((c+1:Nat):Int):=by rw[bY ⟨by omega,by omega⟩];omega
     have zq:decide (0<=(q:Int))=true:=Rs (by omega);have zq1:decide (0<=((q+1:Nat):Int))=true:=Rs (by omega);have hat:∀k,p+1+q<=k->z[k]? = l[k]? := fun k hk=>by
      have:=congrArg (fun y=>y[k-(p+1+q)]?) q4;simp only[SZ] at this
      rwa [show p+1+q+(k-(p+1+q))=k by omega] at this
     obtain⟨a,hae⟩:∃a,a=l[p+1+q]:=⟨_,rfl⟩
     obtain⟨b,hbe⟩:∃b,b=l[p+1+(q+1)]:=⟨_,rfl⟩
     have ag:l[p+1+q]? = some a:=by rw[hae];exact Rm (by omega)
     have bg:l[p+1+(q+1)]? = some b:=by rw[hbe];exact Rm (by omega)
     have bm:b∈l:=R3 bg;have ea:(aZ z)[p+1+(q:Int).toNat]? = some (.il 1 (aI a)):=by rw[Rq,pL,hat _ (by omega),ag];rfl
     have eb:(aZ z)[p+1+((q+1:Nat):Int).toNat]? = some (.il 1 (aI b)):=by rw[Rq,pL,hat _ (by omega),bg];rfl
     have ba:Nat.blt (q:Int).toNat (l.length-(p+1))=true:=Ru (by simp;omega);have bb:Nat.blt ((q+1:Nat):Int).toNat (l.length-(p+1))=true:=Ru (by simp;omega);have hc:=Qw b a (by have:=hok _ bm;omega);have hkeep:rH l (p+1+(q+1)) = !(dE b a == 0):=by
      rw[show p+1+(q+1)=(p+1+q)+1 by omega] at bg ⊢;simp only[rH];rw[bg,ag]
     have hnext:lR l (p+1+(q+1+1))=if rH l (p+1+(q+1))=true then lR l (p+1+(q+1))++[b] else lR l (p+1+(q+1)):=by
      rw[show p+1+(q+1+1)=(p+1+(q+1))+1 by omega,lR,bg]
     clear hae hbe;generalize (dE b a == 0)=e at *;((conv=>whnf);repeat(refine Xg ?_;conv=>whnf));rw[hdq,Rs hq];((conv=>whnf);repeat(refine Xg ?_;conv=>whnf));repeat((first|refine aK bb ?_|refine aC eb ?_);(conv=>whnf);repeat(refine Xg ?_;conv=>whnf))
     rw[hw1,zq];((conv=>whnf);repeat(refine Xg ?_;conv=>whnf));repeat((first|refine aK ba ?_|refine aC ea ?_|refine aB.2 ?_|refine aD ?_);(conv=>whnf);repeat(refine Xg ?_;conv=>whnf))
     refine hc.go ?_ (.cons (.il' (aG b)) (.cons (.il' (aG a)) .nil)) nn;((conv=>whnf);repeat(refine Xg ?_;conv=>whnf));repeat((first|refine aB.2 ?_|refine aD ?_);(conv=>whnf);repeat(refine Xg ?_;conv=>whnf))
     cases e with
     | true=>
      rw[hkeep,Rp (by simp)] at hnext;((conv=>whnf);repeat(refine Xg ?_;conv=>whnf));exact .mk (q+1,z,c) [(0,0)] ⟨by simp only;omega,q2,by simp only;rw[q3,hnext],by
        simp only;have:=congrArg (List.drop 1) q4;rw[UM,UM] at this;exact this,by simp only;omega⟩
       (aJ _ rfl ⟨⟨0,_,rfl,rfl,.same (aU _)⟩,trivial⟩ ⟨⟨_,rfl,.slE rfl rfl⟩,⟨_,rfl,.same _ nf⟩,aH,⟨_,rfl,.slE rfl rfl⟩,⟨_,rfl,.w64 (by simp only;omega) ⟨by omega,by omega⟩⟩,trivial⟩) (by simp only;omega)
     | false=>
      rw[hkeep,Rx (by simp)] at hnext;have zc:decide (0<=(c:Int))=true:=Rs (by omega);((conv=>whnf);repeat(refine Xg ?_;conv=>whnf));repeat((first|refine aK bb ?_|refine aC eb ?_);(conv=>whnf);repeat(refine Xg ?_;conv=>whnf))
      have hcl:c<z.length:=by omega
      obtain⟨d,hde⟩:∃d,d=z[c]:=⟨_,rfl⟩
      have dg:z[c]? = some d:=by rw[hde];exact Rm hcl
      have ed:(aZ z)[0+(c:Int).toNat]? = some (.il 1 (aI d)):=by rw[Rq,SF,pL,dg];rfl
      have bc:Nat.blt (c:Int).toNat l.length=true:=Ru (by simp;omega);repeat((first|refine aK bc ?_|refine aC ed ?_|refine aB.2 ?_|refine aD ?_);(conv=>whnf);repeat(refine Xg ?_;conv=>whnf))
      have hset:aZ (z.set c b)=(aZ z).set (0+(c:Int).toNat) (.il 1 (aI b)):=by rw[JQ,Rq,SF]
      exact .mk (q+1,z.set c b,c+1) [(0,0)] ⟨by simp only;omega,by simp only;rw[Sx];exact q2,by
        simp only;rw[Rv (by rw[Sx];exact hcl),List.getElem_set_self,List.take_set_of_le (R2 c),q3,hnext],by
        simp only;have:=congrArg (List.drop 1) q4;rw[UM,UM] at this;rw[List.drop_set_of_lt (by omega)];exact this,by simp only;omega⟩
       (aJ _ rfl ⟨⟨0,_,rfl,rfl,.eq (aU _) hset.symm⟩,trivial⟩ ⟨⟨_,rfl,.slE rfl rfl⟩,⟨_,rfl,.same _ nf⟩,⟨_,rfl,.int hw2⟩,⟨_,rfl,.slE rfl rfl⟩,⟨_,rfl,.w64 (by simp only;omega) ⟨by omega,by omega⟩⟩,trivial⟩) (by simp only;omega)
    ·have hqe:p+1+(q+1)=l.length:=by omega
     rw[hqe] at q3;have hcz:c<=z.length:=by omega
     have hcd:(lR l l.length).length=c:=by rw[←q3,SX];omega
     rw[hcd];((conv=>whnf);repeat(refine Xg ?_;conv=>whnf));rw[hdq,R4 hq];((conv=>whnf);repeat(refine Xg ?_;conv=>whnf));refine aK (i8 (by simp;omega) (by omega) (by omega)) ?_;((conv=>whnf);repeat(refine Xg ?_;conv=>whnf));refine aK (PQ rfl rfl rfl (by omega) (by omega)) ?_;((conv=>whnf);repeat(refine Xg ?_;conv=>whnf));refine aK (i8 (by omega) (by simp;omega) (by omega)) ?_;((conv=>whnf);repeat(refine Xg ?_;conv=>whnf));obtain⟨ys,hye⟩:∃ys,ys=List.take (0+(c:Int).toNat) (aZ z)++(List.replicate (l.length-(c:Int).toNat) AV.nsl++List.drop (0+(c:Int).toNat+(l.length-(c:Int).toNat)) (aZ z)):=⟨_,rfl⟩
     rw[←hye];have hzn:=aU z;have htl:(List.take (0+(c:Int).toNat) (aZ z)).length=c:=by rw[SX];omega
     have hys:g9 ys:=fun x hx=>by
      rw[hye] at hx;rcases R5.1 hx with hx|hx
      ·exact hzn x (Se hx)
      ·rcases R5.1 hx with hx|hx
       ·rw[TM hx];exact .nsl
       ·exact hzn x (Sq hx)
     have hyt:ys.take c=aZ (lR l l.length):=by
      rw[hye,Tr (by omega),To,←q3];simp only[aZ,T8];congr 1;omega
     have hyl:c<=ys.length:=by rw[hye,Ro,htl];omega
     exact bK (r':=.sl 0 0 c) (m':=[(0,.row 22 1 ys)]) (n':=1) [(0,0)] rfl ⟨⟨0,_,rfl,rfl,.same hys⟩,trivial⟩ (.slE rfl (by omega)) ⟨rfl,ys,rfl,rfl,hys,hyt,hyl⟩
  ·have hpe:p+1=l.length:=by omega
   have he:=hall fun j hj=>p2 j (by omega)
   rw[he];((conv=>whnf);repeat(refine Xg ?_;conv=>whnf));rw[hdp,R4 hp];((conv=>whnf);repeat(refine Xg ?_;conv=>whnf));exact bK (r':=.sl 0 0 l.length) (m':=[(0,.row 22 1 (aZ l))]) (n':=1) [(0,0)] rfl ⟨⟨0,_,rfl,rfl,.same (aU _)⟩,trivial⟩ (.sl 0 0 0 _ rfl) ⟨rfl,aZ l,rfl,rfl,aU l,by rw[SA (by omega)],by omega⟩
end Go.Proofs.YthempfhilcmfnaaGreat
namespace Go.Proofs
open Go.Shelf
def Tryz.laysSlsf6_f23_ren:Go.Shelf.Ren:=⟨fun|6=>23|15=>38|14=>37|28=>55|29=>56|20=>47|21=>48|22=>49|23=>50|24=>51|25=>52|26=>53|27=>54|46=>76|47=>77|48=>78|49=>79|50=>80|57=>103|n=>n,fun|22=>23|24=>22|25=>26|3=>3|39=>55|0=>0|53=>80|55=>82|4=>4|46=>73|45=>72|50=>77|5=>5|9=>9|66=>105|70=>109|76=>140|77=>141|n=>n,fun|n=>n⟩
theorem Tryz.laysSlsf6_f23:Go.Proofs.SlLaysF.n6 Tryz.prog Tryz.laysSlsf6_f23_ren:={
 mixed:=by kernel_rfl
 f6:=⟨Tryz.f23.name,by decide,Tryz.func23.trans (congrArg some (by kernel_rfl))⟩
 f14:=⟨Tryz.f37.name,by decide,Tryz.func37.trans (congrArg some (by kernel_rfl))⟩
 f15:=Tryz.func38.trans (congrArg some (by kernel_rfl))
 f20:=⟨Tryz.f47.name,by decide,Tryz.func47.trans (congrArg some (by kernel_rfl))⟩
 f21:=⟨Tryz.f48.name,by decide,Tryz.func48.trans (congrArg some (by kernel_rfl))⟩
 f22:=⟨Tryz.f49.name,by decide,Tryz.func49.trans (congrArg some (by kernel_rfl))⟩
 f23:=⟨Tryz.f50.name,by decide,Tryz.func50.trans (congrArg some (by kernel_rfl))⟩
 f24:=⟨Tryz.f51.name,by decide,Tryz.func51.trans (congrArg some (by kernel_rfl))⟩
 f25:=⟨Tryz.f52.name,by decide,Tryz.func52.trans (congrArg some (by kernel_rfl))⟩
 f26:=⟨Tryz.f53.name,by decide,Tryz.func53.trans (congrArg some (by kernel_rfl))⟩
 f27:=⟨Tryz.f54.name,by decide,Tryz.func54.trans (congrArg some (by kernel_rfl))⟩
 f28:=Tryz.func55.trans (congrArg some (by kernel_rfl))
 f29:=Tryz.func56.trans (congrArg some (by kernel_rfl))
 f46:=⟨Tryz.f76.name,by decide,Tryz.func76.trans (congrArg some (by kernel_rfl))⟩
 f47:=Tryz.func77.trans (congrArg some (by kernel_rfl))
 f48:=Tryz.func78.trans (congrArg some (by kernel_rfl))
 f49:=⟨Tryz.f79.name,by decide,Tryz.func79.trans (congrArg some (by kernel_rfl))⟩
 f50:=⟨Tryz.f80.name,by decide,Tryz.func80.trans (congrArg some (by kernel_rfl))⟩
 f57:=⟨Tryz.f103.name,by decide,Tryz.func103.trans (congrArg some (by kernel_rfl))⟩
 t0:=Tryz.underlying0
 a0:=Tryz.isAgg0
 z0:=Tryz.sizeOf0
 v0:=Tryz.zeroValue0
 t3:=Tryz.underlying3
 a3:=Tryz.isAgg3
 z3:=Tryz.sizeOf3
 v3:=Tryz.zeroValue3
 t4:=Tryz.underlying4
 a4:=Tryz.isAgg4
 z4:=Tryz.sizeOf4
 v4:=Tryz.zeroValue4
 t5:=Tryz.underlying5
 a5:=Tryz.isAgg5
 z5:=Tryz.sizeOf5
 v5:=Tryz.zeroValue5
 t9:=Tryz.underlying9
 a9:=Tryz.isAgg9
 z9:=Tryz.sizeOf9
 v9:=Tryz.zeroValue9
 t22:=Tryz.underlying23
 a22:=Tryz.isAgg23
 z22:=Tryz.sizeOf23
 v22:=Tryz.zeroValue23
 a24:=Tryz.isAgg22
 z24:=Tryz.sizeOf22
 t25:=Tryz.underlying26
 a25:=Tryz.isAgg26
 z25:=Tryz.sizeOf26
 v25:=Tryz.zeroValue26
 t39:=Tryz.underlying55
 a39:=Tryz.isAgg55
 z39:=Tryz.sizeOf55
 v39:=Tryz.zeroValue55
 t45:=Tryz.underlying72
 a45:=Tryz.isAgg72
 z45:=Tryz.sizeOf72
 v45:=Tryz.zeroValue72
 t46:=Tryz.underlying73
 a46:=Tryz.isAgg73
 z46:=Tryz.sizeOf73
 v46:=Tryz.zeroValue73
 t50:=Tryz.underlying77
 a50:=Tryz.isAgg77
 z50:=Tryz.sizeOf77
 v50:=Tryz.zeroValue77
 t53:=Tryz.underlying80
 a53:=Tryz.isAgg80
 z53:=Tryz.sizeOf80
 v53:=Tryz.zeroValue80
 t55:=Tryz.underlying82
 a55:=Tryz.isAgg82
 z55:=Tryz.sizeOf82
 v55:=Tryz.zeroValue82
 t66:=Tryz.underlying105
 a66:=Tryz.isAgg105
 z66:=Tryz.sizeOf105
 v66:=Tryz.zeroValue105
 t70:=Tryz.underlying109
 a70:=Tryz.isAgg109
 z70:=Tryz.sizeOf109
 v70:=Tryz.zeroValue109
 t76:=Tryz.underlying140
 a76:=Tryz.isAgg140
 z76:=Tryz.sizeOf140
 v76:=Tryz.zeroValue140
 t77:=Tryz.underlying141
 a77:=Tryz.isAgg141
 z77:=Tryz.sizeOf141
 v77:=Tryz.zeroValue141 }
open Go.RowKit Go.Lib Go.Sort in
theorem Tryz.slices_SortFunc{α:Type}[Inhabited α](enc:α->Value)(h1:OneCell enc)(cf:α->α->Int)(hO:SWO (ltOf cf))(g:Nat)(cb:Array Value)(blk off cap:Nat)(d:Array α)(w:World)(eg:∀args w,(callFunc g args).run Tryz.prog w = .ok (.enter g args) w)(hcmp:CmpLays1 Tryz.prog g cb enc cf blk off d.size w)(hH:Holds enc w blk off d)(hblk:blk<w.heap.size)(hsz:d.size<4611686018427387904) :
  Calls Tryz.prog 23 #[.slice (some ⟨blk,off,none⟩) d.size cap,.func (.func g) #[] cb] w fun e w'=>
   e = .returned (.tuple #[])/\∃d' n os,PermIn 0 d.size d d'/\SortedIn (ltOf cf) 0 d.size d'/\w'=sortWorld enc w blk off n d' os:=Any.slices_SortFunc Tryz.laysSlsf6_f23 enc h1 cf hO g cb blk off cap d w eg hcmp hH hblk hsz
def Tryz.laysSlsfz6_f23_ren:Go.Shelf.Ren:=⟨fun|6=>23|15=>38|14=>37|28=>55|29=>56|20=>47|21=>48|22=>49|23=>50|24=>51|25=>52|26=>53|27=>54|46=>76|47=>77|48=>78|49=>79|50=>80|57=>103|n=>n,fun|22=>23|24=>22|25=>26|3=>3|39=>55|0=>0|53=>80|55=>82|4=>4|46=>73|45=>72|50=>77|5=>5|9=>9|66=>105|70=>109|76=>140|77=>141|n=>n,fun|n=>n⟩
theorem Tryz.laysSlsfz6_f23:Go.Proofs.SlLaysF0.n6 Tryz.prog Tryz.laysSlsfz6_f23_ren:={
 mixed:=by kernel_rfl
 f6:=⟨Tryz.f23.name,by decide,Tryz.func23.trans (congrArg some (by kernel_rfl))⟩
 f14:=⟨Tryz.f37.name,by decide,Tryz.func37.trans (congrArg some (by kernel_rfl))⟩
 f15:=Tryz.func38.trans (congrArg some (by kernel_rfl))
 f20:=⟨Tryz.f47.name,by decide,Tryz.func47.trans (congrArg some (by kernel_rfl))⟩
 f21:=⟨Tryz.f48.name,by decide,Tryz.func48.trans (congrArg some (by kernel_rfl))⟩
 f22:=⟨Tryz.f49.name,by decide,Tryz.func49.trans (congrArg some (by kernel_rfl))⟩
 f23:=⟨Tryz.f50.name,by decide,Tryz.func50.trans (congrArg some (by kernel_rfl))⟩
 f24:=⟨Tryz.f51.name,by decide,Tryz.func51.trans (congrArg some (by kernel_rfl))⟩
 f25:=⟨Tryz.f52.name,by decide,Tryz.func52.trans (congrArg some (by kernel_rfl))⟩
 f26:=⟨Tryz.f53.name,by decide,Tryz.func53.trans (congrArg some (by kernel_rfl))⟩
 f27:=⟨Tryz.f54.name,by decide,Tryz.func54.trans (congrArg some (by kernel_rfl))⟩
 f28:=Tryz.func55.trans (congrArg some (by kernel_rfl))
 f29:=Tryz.func56.trans (congrArg some (by kernel_rfl))
 f46:=⟨Tryz.f76.name,by decide,Tryz.func76.trans (congrArg some (by kernel_rfl))⟩
 f47:=Tryz.func77.trans (congrArg some (by kernel_rfl))
 f48:=Tryz.func78.trans (congrArg some (by kernel_rfl))
 f49:=⟨Tryz.f79.name,by decide,Tryz.func79.trans (congrArg some (by kernel_rfl))⟩
 f50:=⟨Tryz.f80.name,by decide,Tryz.func80.trans (congrArg some (by kernel_rfl))⟩
 f57:=⟨Tryz.f103.name,by decide,Tryz.func103.trans (congrArg some (by kernel_rfl))⟩
 t0:=Tryz.underlying0
 a0:=Tryz.isAgg0
 z0:=Tryz.sizeOf0
 v0:=Tryz.zeroValue0
 t3:=Tryz.underlying3
 a3:=Tryz.isAgg3
 z3:=Tryz.sizeOf3
 v3:=Tryz.zeroValue3
 t4:=Tryz.underlying4
 a4:=Tryz.isAgg4
 z4:=Tryz.sizeOf4
 v4:=Tryz.zeroValue4
 t5:=Tryz.underlying5
 a5:=Tryz.isAgg5
 z5:=Tryz.sizeOf5
 v5:=Tryz.zeroValue5
 t9:=Tryz.underlying9
 a9:=Tryz.isAgg9
 z9:=Tryz.sizeOf9
 v9:=Tryz.zeroValue9
 t22:=Tryz.underlying23
 a22:=Tryz.isAgg23
 z22:=Tryz.sizeOf23
 v22:=Tryz.zeroValue23
 t25:=Tryz.underlying26
 a25:=Tryz.isAgg26
 z25:=Tryz.sizeOf26
 v25:=Tryz.zeroValue26
 t39:=Tryz.underlying55
 a39:=Tryz.isAgg55
 z39:=Tryz.sizeOf55
 v39:=Tryz.zeroValue55
 t45:=Tryz.underlying72
 a45:=Tryz.isAgg72
 z45:=Tryz.sizeOf72
 v45:=Tryz.zeroValue72
 t46:=Tryz.underlying73
 a46:=Tryz.isAgg73
 z46:=Tryz.sizeOf73
 v46:=Tryz.zeroValue73
 t50:=Tryz.underlying77
 a50:=Tryz.isAgg77
 z50:=Tryz.sizeOf77
 v50:=Tryz.zeroValue77
 t53:=Tryz.underlying80
 a53:=Tryz.isAgg80
 z53:=Tryz.sizeOf80
 v53:=Tryz.zeroValue80
 t55:=Tryz.underlying82
 a55:=Tryz.isAgg82
 z55:=Tryz.sizeOf82
 v55:=Tryz.zeroValue82
 t66:=Tryz.underlying105
 a66:=Tryz.isAgg105
 z66:=Tryz.sizeOf105
 v66:=Tryz.zeroValue105
 t70:=Tryz.underlying109
 a70:=Tryz.isAgg109
 z70:=Tryz.sizeOf109
 v70:=Tryz.zeroValue109
 t76:=Tryz.underlying140
 a76:=Tryz.isAgg140
 z76:=Tryz.sizeOf140
 v76:=Tryz.zeroValue140
 t77:=Tryz.underlying141
 a77:=Tryz.isAgg141
 z77:=Tryz.sizeOf141
 v77:=Tryz.zeroValue141 }
open Go.RowKit Go.Lib Go.Sort in
theorem Tryz.slices_SortFunc_none{α:Type}[Inhabited α](p:Option Addr)(cap:Nat)(fv:Value)(w:World) :
  Calls Tryz.prog 23 #[.slice p 0 cap,fv] w fun e w'=>e = .returned (.tuple #[])/\w'=w:=AnyF.slices_SortFunc_none Tryz.laysSlsfz6_f23 p cap fv w
end Go.Proofs
namespace Go.Ax
open Go
structure Qj{β:Type}(xs:List β)(c:β->β->Int):Prop where
 irrefl:∀x∈xs,¬c x x<0
 trans:∀x∈xs,∀y∈xs,∀z∈xs,c x y<0->c y z<0->c x z<0
 ntrans:∀x∈xs,∀y∈xs,∀z∈xs,¬c x y<0->¬c y z<0->¬c x z<0
def Lc{β:Type}(xs ys:List β)(c:β->β->Int):Prop:=ys.Perm xs/\∀(i j:Nat) (x y:β),i<j->ys[i]? = some x->ys[j]? = some y->¬c y x<0
section
variable {P:Program} {F:FuncId} {t:TypeId} {k:Nat}
open Go.Shelf Go.RowKit Go.Lib Go.Sort Go.Proofs
end
end Go.Ax
namespace Go.Ax
open Go
section
variable {P:Program} {F:FuncId} {t:TypeId}
open Go.Shelf Go.RowKit Go.Lib Go.Sort Go.Proofs
theorem EA
  (hF:∀(enc:Nat->Value) (_:OneCell enc) (cf:Nat->Nat->Int) (_:SWO (ltOf cf)) (g:Nat) (cb:Array Value) (blk off cap:Nat) (d:Array Nat) (w:World)
   (_:∀args w,(callFunc g args).run P w = .ok (.enter g args) w) (_:CmpLays1 P g cb enc cf blk off d.size w) (_:Holds enc w blk off d) (_:blk<w.heap.size) (_:d.size<4611686018427387904),
   Calls P F #[.slice (some ⟨blk,off,none⟩) d.size cap,.func (.func g) #[] cb] w fun e w'=>
    e = .returned (.tuple #[])/\∃d' n os,PermIn 0 d.size d d'/\SortedIn (ltOf cf) 0 d.size d'/\w'=sortWorld enc w blk off n d' os)
  {g:FuncId} (eg:∀args w,(callFunc g args).run P w = .ok (.enter g args) w) {β:Type} [Inhabited β] (e:β->AV) (L:List β) (h0:0<L.length) (hlen:L.length<4611686018427387904) (hone:∀x∈L,(e x).cells=[e x]) (hnn:∀x∈L,NN (e x))
  (c:β->β->Int) (hO:Qj L c) (hc:∀x∈L,∀y∈L,a8 P [] g [e x,e y] (.int .i64 (c x y))) (hF0:Nat.beq F YF=false:=by rfl) (hg0:Nat.beq g YF=false:=by rfl) :
  aM P [] F [.sl 0 0 L.length,.fn (.func g) [] []] [(0,.row t 1 (L.map e))] 1 fun r m n=>r = .tup []/\n=1/\∃ys,Lc L ys c/\m=[(0,.row t 1 (ys.map e))]:=by
 obtain⟨xs,hxs⟩:∃xs,xs=L.map e:=⟨_,rfl⟩
 have hxl:L.length=xs.length:=by rw[hxs];simp
 rw[←hxs,hxl];rw[hxl] at h0 hlen;refine⟨fun X D ρ w vs hD hm hv=>?_⟩;obtain⟨hl,hv⟩:=hv
 match vs,hl with
 | [s,fv],_=>
  have v0:=hv 0 _ s rfl rfl;have v1:=hv 1 _ fv rfl rfl;have hid:lk [(0,AB.row t 1 xs)] 0=some (.row t 1 xs):=rfl;have hsz:=vF hm hid;have hn:0<(ρ 0).n:=by
   rcases SN (ρ 0).n with h|h
   ·obtain⟨t',sz',e1,_⟩:=hm.emp _ (bI hid) h;injection e1 with _ _ e2;rw[e2] at h0;simp at h0
   ·exact h
  obtain⟨o,ho,hsz',arr,fr,rfl,hf,hs,hle,hrow⟩:=hm.blk _ (bI hid) hn;simp only at ho hsz' hs hle hrow;rw[hsz] at hrow hle;rw[Nat.mul_one] at hle;have hlt:=lW hm (.inr ⟨_,bI hid,hn,rfl⟩);simp only at hlt;obtain⟨n,hne⟩:∃n,n=xs.length:=⟨_,rfl⟩
  rw[←hne] at v0 h0 hlen hle;have hso:∃cap,s = .slice (some ⟨(ρ 0).b,0,none⟩) n cap:=by
   cases v0 with
   | sl _ _ _ cap _ h1 h2=>exact⟨cap,by rw[Nat.zero_mul]⟩
   | slz=>omega
   | slzn=>omega
  obtain⟨cap,rfl⟩:=hso;have hfv:fv = .func (.func g) #[] #[]:=by
   cases v1 with
   | fn f a b a1 a2 l1 l2 _ _=>
    have e1:a1 = #[]:=S9 l1.symm;have e2:a2 = #[]:=S9 l2.symm;rw[e1,e2]
  subst hfv;obtain⟨lv,hlv⟩:∃lv:Nat->β,lv=fun i=>L.getD (min i (n-1)) default:=⟨_,rfl⟩
  have hmin:∀i,min i (n-1)<n:=fun i=>by omega
  have hlm:∀i,lv i∈L:=fun i=>by
   have hi:=hmin i;rw[hlv];simp only;rw[Rn,Rm (by omega)];exact SI _
  obtain⟨el,hel0⟩:∃el:Nat->AV,el=fun i=>e (lv i):=⟨_,rfl⟩
  have hel:∀i,xs[min i (n-1)]? = some (el i):=fun i=>by
   have hi:=hmin i;rw[hel0,hlv,hxs];simp only;rw[Rn,So,Rm (by omega)];rfl
  have hcl:∀i,∃v,arr[min i (n-1)]? = some v/\v.oneCell'=true/\VR ρ D (OX X ρ [(0,.row t 1 xs)]) w (el i) v:=fun i=>by
   obtain⟨h4,h5⟩:=hrow _ _ (hel i);have h6:(el i).cells[0]? = some (el i):=by rw[show (el i).cells=[el i] by rw[hel0];exact hone _ (hlm i)];rfl
   obtain⟨v,hv1,hv2,hv3⟩:=h5 0 _ h6;rw[Nat.mul_one,Ta] at hv1;exact⟨v,hv1,hv2,hv3⟩
  obtain⟨enc,henc⟩:∃enc:Nat->Value,enc=fun i=>arr.getD (min i (n-1)) undef:=⟨_,rfl⟩
  have heg:∀x v,arr[min x (n-1)]? = some v->enc x=v:=fun x v h=>by rw[henc];simp only;rw[TR,h];rfl
  have he1:OneCell enc:=fun x=>by
   obtain⟨v,a2,a3,a4⟩:=hcl x;rw[heg x v a2];exact a3
  obtain⟨d,hd⟩:∃d:Array Nat,d=Array.range n:=⟨_,rfl⟩
  have hdn:d.size=n:=by rw[hd];simp
  have hnk:n<=arr.size:=by rw[hs];exact hle
  have hH:Holds enc w (ρ 0).b 0 d:=by
   intro j hj;rw[hdn] at hj;have hdj:d[j]! = j:=by rw[hd,getElem!_pos _ _ (by simpa using hj)];simp
   have hja:j<arr.size:=by omega
   have e:enc j=arr[j]:=by
    have:min j (n-1)=j:=by omega
    exact heg j _ (by rw[this];exact S3 hja)
   rw[hdj,e];constructor
   ·simp only[World.cell?,ho,SF];rw[Rp (by simp),S3 hja]
   ·simp only[World.frozen?,ho,SF];have:=hf j hja;obtain⟨a,b⟩:=fr;simp only at this ⊢;rw[TV];simp;omega
  obtain⟨cf,hcf⟩:∃cf:Nat->Nat->Int,cf=fun x y=>c (lv x) (lv y):=⟨_,rfl⟩
  have hSW:SWO (ltOf cf):=by
   refine⟨fun x=>?_,fun x y z h1 h2=>?_,fun x y z h1 h2=>?_⟩
   ·simp only[ltOf,hcf];exact R4 (hO.irrefl _ (hlm x))
   ·simp only[ltOf,hcf] at h1 h2 ⊢;exact Rs (hO.trans _ (hlm x) _ (hlm y) _ (hlm z) (Sz h1) (Sz h2))
   ·simp only[ltOf,hcf] at h1 h2 ⊢;exact R4 (hO.ntrans _ (hlm x) _ (hlm y) _ (hlm z) (Tt h1) (Tt h2))
  obtain⟨O,hOe⟩:∃O,O=OX X ρ [(0,.row t 1 xs)]:=⟨_,rfl⟩
  rw[←hOe] at hcl;have hOb:O (ρ 0).b:=by rw[hOe];exact .inr ⟨_,bI hid,hn,rfl⟩
  have hev:∀x,VR ρ D O w (el x) (enc x):=fun x=>by
   obtain⟨v,a2,a3,a4⟩:=hcl x;rw[heg x v a2];exact a4
  have hcmp:CmpLays1 P g #[] enc cf (ρ 0).b 0 d.size w:=by
   intro m os dk hdk x y;have hWh:∀b,b<w.heap.size->b≠(ρ 0).b->(sortWorld enc w (ρ 0).b 0 m dk os).heap[b]? = w.heap[b]? := fun b hb hne=>by
    show ((w.heap.modify (ρ 0).b _)++os)[b]? = _
    rw[T1 (by simpa using hb),TI,Rp (Ne.symm hne)]
   have hWs:w.heap.size<=(sortWorld enc w (ρ 0).b 0 m dk os).heap.size:=by
    show _<=((w.heap.modify (ρ 0).b _)++os).size
    simp
   generalize sortWorld enc w (ρ 0).b 0 m dk os=W at hWh hWs ⊢;have hat:∀z,VR ρ (fun _=>False) (OX (fun _=>False) ρ []) W (el z) (enc z):=fun z=>by
    have a1:VR ρ D (fun b=>b=(ρ 0).b) w (el z) (enc z):=NN.vr (hev z) (fun b _ hb e=>hb (by rw[e];exact hOb)) (by rw[hel0];exact hnn _ (hlm z));have a2:=a1.mono (w':=W) (ρ':=ρ) (D':=D) (O':=fun b=>b=(ρ 0).b) (fun _ _=>rfl) (fun _ h=>h) (fun b hb hne=>⟨hne,hWh b hb hne⟩);exact NN.vr a2 (fun b _ _ h=>by rcases h with h|⟨p,hp,_⟩;exact h;cases hp) (by rw[hel0];exact hnn _ (hlm z))
   have hcc:=hc _ (hlm x) _ (hlm y);rw[show e (lv x)=el x by rw[hel0],show e (lv y)=el y by rw[hel0]] at hcc;have hcall:=hcc.run (fun _=>False) (fun _=>False) ρ W [enc x,enc y] (fun i h=>h.elim)
    ⟨fun p hp=>(by cases hp),fun p hp=>(by cases hp),fun p hp=>(by cases hp),fun p hp=>(by cases hp),by simp,fun b h=>h.elim,fun p hp=>(by cases hp)⟩ (.cons (hat x) (.cons (hat y) .nil))
   rw[Array.append_empty];refine(hcall.calls hg0).mono ?_;rintro e w' ⟨r,v,mem',nx',ρ',rfl,⟨rfl,rfl,rfl⟩,_,_,hr,hext⟩;cases hr;refine⟨by rw[hcf],w'.drawn-W.drawn,w'.heap.extract W.heap.size w'.heap.size, ?_⟩;have h1:=hext.env;have h2:w'.heap=W.heap++w'.heap.extract W.heap.size w'.heap.size:=by
    apply UB;intro b;rcases R9 b W.heap.size with hb|hb
    ·rw[T1 hb,hext.keep b hb (fun⟨p,hp,_⟩=>by cases hp)]
    ·rw[Array.getElem?_append_right hb,Array.getElem?_extract];have:=hext.size;split
     ·congr 1;omega
     ·rw[Ts (by omega)]
   have h3:W.drawn+(w'.drawn-W.drawn)=w'.drawn:=by have:=h1.drawn;omega
   cases w';unfold grow World.drewN;simp only at h1 h2 h3 ⊢;rw[h3,←h2,←h1.os,←h1.output,←h1.tape]
  have hres:=hF enc he1 cf hSW g #[] (ρ 0).b 0 cap d w eg hcmp hH hlt (by omega);rw[hdn] at hres;refine .of hF0 (hres.mono ?_);rintro e w' ⟨rfl,d',q,os,⟨p1,_,p3⟩,hsort,rfl⟩;rw[hdn] at p1;have hys:∀i,i<n->d'[i]? = some d'[i]! := fun i hi=>by rw[getElem!_pos d' i (by omega),S3]
  have hW1:(putRow enc (Sort.ahead w q) (ρ 0).b 0 d').heap=w.heap.setIfInBounds (ρ 0).b (.cells (putCells enc 0 d' arr) t fr):=by
   apply UB;intro b
   show (w.heap.modify (ρ 0).b (Sort.onCells _))[b]? = _
   rw[TI,UV];by_cases hk:(ρ 0).b=b
   ·subst hk;rw[Rx rfl,Rx rfl,Rx hlt,ho];rfl
   ·rw[Rp hk,Rp hk]
  obtain⟨m1,mv,ext⟩:=hm.change (w':=putRow enc (Sort.ahead w q) (ρ 0).b 0 d') (xs':=d'.toList.map el) (arr:=putCells enc 0 d' arr) (fr:=fr) hid hn hW1 .go
   (fun j hj=>hf j (by simpa[putCells] using hj)) (by rw[←hs];simp[putCells])
   (by
    refine⟨by simp[putCells,p1];exact hnk,fun i x hi=>?_⟩;rw[So] at hi;obtain⟨q0,he,rfl⟩:=Th.1 hi;have hin:i<n:=by have:=(Rt.1 he).1;simpa[p1] using this
    have hde:d'[i]! = q0:=by
     have:=hys i hin;rw[←Sl,he] at this;exact(Option.some.inj this).symm
    have hce:(el q0).cells=[el q0]:=by rw[hel0];exact hone _ (hlm q0)
    refine⟨by rw[hce];rfl,fun j cv hj=>?_⟩;rw[hce] at hj;have hj0:j=0:=by
     cases j with
     | zero=>rfl
     | succ j=>simp at hj
    subst hj0;cases hj;obtain⟨v,a2,a3,a4⟩:=hcl q0;refine⟨v, ?_,a3,hOe ▸ a4⟩;have hv:enc q0=v:=heg q0 v a2;unfold putCells;rw[Nat.mul_one,Ta,Array.getElem?_mapIdx,S3 (show i<arr.size by omega),TN];rw[Rx ⟨TC _,by rw[SF,p1];exact hin⟩];simp only[UZ,hde,hv])
  obtain⟨m2,ext2⟩:=m1.still (w':=sortWorld enc w (ρ 0).b 0 q d' os) (by unfold sortWorld;rw[size_grow];omega) (fun b hb=>by
   unfold sortWorld grow;rw[T1 hb]) .go
  have hsub:∀i,D i->dn D 1 1 i:=fun i hi=>.inl hi
  refine⟨.tup [],.tuple #[],_,1,ρ,rfl,⟨rfl,rfl,d'.toList.map lv,⟨?_,fun i j x y hij hi hj=>?_⟩,by simp[up,hel0]⟩,R2 _,(m2.widen hsub).1,.tup [] #[] rfl (by simp),((ext D fun i hi=>hi).trans (ext2 D fun i hi=>hi)).wide hsub⟩
  ·have hp:d'.toList.Perm (List.range n):=by
    have e1:(d'.extract 0 n)=d':=by rw[←p1];simp
    have e2:(d.extract 0 n)=d:=by rw[←hdn];simp
    rw[e1,e2] at p3;rw[hd] at p3;simpa using p3
   have h1:=hp.map lv;have h2:(List.range n).map lv=L:=by
    apply UL;intro i;rw[So];rcases R9 i n with hi|hi
    ·rw[List.getElem?_range hi,TN,hlv];simp only;rw[show min i (n-1)=i by omega,Rn,Rm (by omega)];rfl
    ·rw[R8 (by simpa using hi),R8 (by omega)];rfl
   rw[h2] at h1;exact h1
  ·rw[So] at hi hj;obtain⟨a,ha,rfl⟩:=Th.1 hi;obtain⟨b,hb,rfl⟩:=Th.1 hj;have hjn:j<n:=by have:=(Rt.1 hb).1;simpa[p1] using this
   have hia:d'[i]! = a:=by
    have:=hys i (by omega);rw[←Sl,ha] at this;exact(Option.some.inj this).symm
   have hjb:d'[j]! = b:=by
    have:=hys j hjn;rw[←Sl,hb] at this;exact(Option.some.inj this).symm
   have:=hsort i j (TC _) hij hjn;rw[hia,hjb] at this;simp only[ltOf,hcf] at this;exact Tt this
end
end Go.Ax
