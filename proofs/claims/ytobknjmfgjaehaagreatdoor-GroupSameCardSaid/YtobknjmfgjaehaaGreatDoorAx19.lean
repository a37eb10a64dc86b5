/- A part of the proof. -/
import Derived.Test.YtobknjmfgjaehaaGreatDoorAx18
set_option linter.unusedVariables false
set_option linter.unusedSimpArgs false
set_option linter.unusedSectionVars false
namespace Go.Proofs.YtobknjmfgjaehaaGreatDoor
open Go Go.Ax Go.Proofs Tryz
theorem gR:∀p∈gz,NN p.2:=fun p hp=>by
 simp only[gz,List.mem_cons,List.not_mem_nil,or_false] at hp;rcases hp with rfl|rfl|rfl
 ·exact nn
 ·exact nn
 ·exact nn
set_option maxRecDepth 100000
set_option maxHeartbeats 16000000
def BK(A:List Nd):Prop:=qY A/\(A.length≠0->QI A)
theorem Ln{A:List Nd}(ht:qY A)(hv:bT [] A=0)(hg:∀j,gN (aI A j)<=3)(hl:A.length<=14):BK A:=
 ⟨ht,fun h=>Np ⟨ht,by unfold cC;rw[if_neg om,hv],om⟩ hg hl⟩
theorem Es{A:List Nd}(hT:gZ A)(hl:A.length<=14):BK A:=
 Ln (Iy (LB:=LB) (fun s hs=>Od hs) (fun x hx=>Lf L2 (Iq hT x hx)) om) hT.valid (O0 hT.gen) hl
theorem AS{A:List Nd}(h:BK A)(hv:VT A):∀p f i a0,i<f->i<A.length->(aZ A p f i a0).spans.length<=4294967296:=(h.2 (by have:=hv.pos;omega)).cnt
theorem E6{A:List Nd}(h:BK A){p:List Int}(hl:p.length<=1000000)(hi:∀x∈p,i64 x):Oj A p:=⟨h.1,hl,hi,fun hv=>AS h hv p⟩
theorem rD{A:List Nd}(h:BK A)(p:List Int):gD (eI A p):=by
 unfold eI;split
 ·rename_i hE;unfold fD at hE;split at hE
  ·omega
  ·split at hE
   ·omega
   ·split at hE
    ·rename_i h1 h2 h3;have vt:VT A:=⟨h.1,om,om⟩
     have hst:(Oi A p).stop = -1:=by
      have:(fV A p).stop = -1:=by
       unfold fW at h3;split at h3
       ·simp at h3
       ·exact h3
      exact this
     exact(lF vt p A.length (A.length-1) 0 om om hst).1
    ·omega
 ·simp[gD,vZ,uJ,i64]
theorem LZ{A:List Nd}(h:VT A)(raw:List Int)(hr:∀x∈raw,i64 x):∀x∈kG A raw,i64 x:=fun x hx=>by
 obtain⟨m,hm⟩:=List.getElem?_of_mem hx;have hml:=(List.getElem?_eq_some_iff.1 hm).1;have hl:((kG A raw).take m).length=m:=by rw[List.length_take];omega
 obtain⟨n,hn1,hn2,hn3⟩:=(Lx h (raw:=raw) (out:=(kG A raw).take m) (by rw[hl];rfl)).2 (by rw[hl];exact hml);rw[hl] at hn3;have h3:(kG A raw)[m]? = some (dU raw (aI A n) m):=hn3;rw[hm] at h3;cases h3;unfold dU;split
 ·rename_i hq;have:=hr _ (List.mem_of_getElem? (List.getElem?_eq_getElem hq));rw[List.getD_eq_getElem?_getD,List.getElem?_eq_getElem hq];obtain⟨a,b⟩:=this;simp only[Option.getD_some];exact⟨om,om⟩
 ·exact⟨om,om⟩
theorem H4{A:List Nd}(h:BK A)(raw:List Int)(hr:∀x∈raw,i64 x):(Bj A raw).length<=256/\∀x∈Bj A raw,i64 x:=by
 unfold Bj;by_cases hE:G0 A=0
 ·rw[if_pos hE];unfold G0 at hE;have vt:VT A:=by
   by_cases h1:cC A=0
   ·rw[if_neg om] at hE;by_cases h2:A.length=0
    ·rw[if_pos h2] at hE;omega
    ·exact⟨h.1,h1,om⟩
   ·rw[if_pos h1] at hE;omega
  exact⟨KD vt raw,LZ vt raw hr⟩
 ·rw[if_neg hE];exact⟨by simp,by simp⟩
def Ec(g:Gr):Prop:=(∀x∈g.min,i64 x)/\g.min.length<=1000/\g.fs.length<=1000
theorem tV{A:List Nd}(h:BK A){g:Gr}(hg:Ec g):a8 prog [] 21 [.agg [.il 12 (aW A)],.il 1 (aT g.min)] (.tup [bK (eI A g.min),.int .i64 (fD A g.min)]):=
 OT (E6 h (by have:=hg.2.1;omega) hg.1) (fun v hv=>Jv (bC v) v (Nat.le_refl _) hv) (rD h _)
theorem rV{A:List Nd}(h:BK A){g:Gr}(hg:Ec g):a8 prog [] 50 [.agg [.il 12 (aW A)],.il 1 (aT g.min)] (.tup [bK (eI A g.min),.int .i64 (fD A g.min)]):=
 Me (E6 h (by have:=hg.2.1;omega) hg.1)
theorem Pc{A B:List Nd}(hA:BK A)(hB:BK B){x y:Gr}(hx:Ec x)(hy:Ec y):∃s:Bool,a8 prog [] 19 [.agg [.il 12 (aW A)],.agg [.il 12 (aW B)],oI x,oI y] (.bool s) /\
  a8 prog [] 20 [.agg [.il 12 (aW A)],.agg [.il 12 (aW B)],oI x,oI y] (.bool s)/\a8 prog [] 19 [.agg [.il 12 (aW B)],.agg [.il 12 (aW A)],oI y,oI x] (.bool s):=
 ⟨_,J9 (tV hA hx) (tV hB hy) (rD hA _),Nb (rV hA hx) (rV hB hy) (rD hA _),by rw[GO];exact J9 (tV hB hy) (tV hA hx) (rD hB _)⟩
theorem Pf{A:List Nd}(hA:BK A){x:Gr}(hx:Ec x):a8 prog [] 19 [.agg [.il 12 (aW A)],.agg [.il 12 (aW A)],oI x,oI x] (.bool (decide (fD A x.min=0) && pI 1 2 x.oc)):=by
 have h:=J9 (tV hA hx) (tV hA hx) (rD hA _);rw[Gh] at h;exact h
theorem Bw(G:List Gr)(i:Nat)(g:Gr):eB (G.set i g)=(eB G).set i (oI g):=by simp[eB,List.map_set]
theorem N1{n:Nat}(h:n<=17592186043904){m:Nat}(hm:m=1+n):(Nat.beq 3 3 && (Nat.beq 1 1 && (Nat.beq 1 1 && (Nat.ble (m*8) 140737488355328 && Nat.ble m 9223372036854775807))))=true:=by
 subst hm;rw[Nat.ble_eq_true_of_le (show (1+n)*8<=140737488355328 by omega),Nat.ble_eq_true_of_le (show 1+n<=9223372036854775807 by omega)];rfl
theorem Gs(A:List Nd):NN (.agg [.il 12 (aW A)]):=.agg' (.cons (.il' (aU A)) .nil)
theorem Ms{P:Program}{Γ:List (Nat × AV)}{B:Nat}{c:Code}{s:St}{Q:Exit->St->Prop}(h:NQ P Γ B c s Q):dI P Γ B c s Q:=Hs c s Q h
theorem IB(l m raw n:List Int)(hl:∀x∈l,i64 x)(hm:∀x∈m,i64 x)(hr:∀x∈raw,i64 x)(hn:∀x∈n,i64 x)(hrl:raw.length<=17592186043904)(hnl:n.length<=17592186043904)(hLv:a8 prog gz 12 [] (.bool true)) :
  a8 prog gz 5 [.il 1 (aT l),.il 1 (aT m),.il 1 (aT raw),.il 1 (aT n)] (.bool true):=by
 have nraw:NN (.il 1 (aT raw)):=.il' (aQ raw);have nl:NN (.il 1 (aT n)):=.il' (aQ n);refine aM gR func5 rfl ?_;refine Rr ?_;refine Mw l hl fun A hTA hAl=>?_
 refine Rt ?_;refine Mw m hm fun B hTB hBl=>?_
 refine Rt ?_
 refine' dI.joinAt (P:=prog) (Γ:=gz) (B:=0) gR (fun B':List Nd=>gZ B'/\B'.length<=14) (fun B'=>⟨[(2,.il 1 (aT raw)),(3,.il 1 (aT n)),(9,.ptr 0 0 0),(10,.ptr 1 0 0)],[(0,.row 49 1 [.agg [.il 12 (aW A)]]),(1,.row 49 1 [.agg [.il 12 (aW B')]])],2,174⟩) (fun hJ=>?_) (fun B hB'=>?_)
 rotate_left 2
 ·refine aH (fun hb=>?_) (fun hb=>?_)
  ·rw[hb];refine Ms ?_
   conv=>whnf
   refine kH.many ?_
   conv=>whnf
   exact hJ A _ [(0,0),(1,1)] ⟨hTA,hAl⟩ (aE _ rfl ⟨aJ 0 (.cons (Gs A) .nil),aJ 1 (.cons (Gs A) .nil),trivial⟩ ⟨aR nraw,aR nl,aK,aK,trivial⟩)
  ·rw[hb]
   conv=>whnf
   refine Ms ?_
   conv=>whnf
   exact hJ B _ [(0,0),(1,1)] ⟨hTB,hBl⟩ (aE _ rfl ⟨aJ 0 (.cons (Gs A) .nil),aJ 1 (.cons (Gs B) .nil),trivial⟩ ⟨aR nraw,aR nl,aK,aK,trivial⟩)
 clear hTB hBl;obtain⟨hTB,hBl⟩:=hB';have cA:=Es hTA hAl;have cB:=Es hTB hBl;have hL:=Ox n hn hnl 6 (by decide);have hFA:=Mu cA.1 (AS cA) raw om hr;have hFB:=Mu cB.1 (AS cB) (0::raw) (by simp;omega) (fun x hx=>by
  rcases List.mem_cons.1 hx with rfl|hx
  ·exact⟨by decide,by decide⟩
  ·exact hr x hx)
 refine Rr ?_;refine aG.useN gR [] hL.glob rfl (.cons (.same _ nl) (.s .nil)) trivial rfl ?_;rintro r m k ⟨G,hG1,hG2,rfl,rfl,rfl⟩;refine⟨[(0,2)],.sl 2 0 G.length,[(2,.row 37 5 (eB G))],3,.sl 0 2 0 _ rfl,⟨aJ 0 (eJ G),trivial⟩,rfl, ?_⟩;refine Rr ?_;have np:NN (.il 1 (aT (Bj A raw))):=.il' (aQ _);refine hFA.goG ?_ (.cons (Gs A) (.cons nraw .nil)) (.tup' (.cons np (.cons nn .nil)));refine Rt ?_;refine aP (N1 hrl (by rw[aD])) ?_;refine Rt ?_;refine aG.pre gR (mem':=[(2,.row 37 5 (eB G)),(0,.row 49 1 [.agg [.il 12 (aW A)]]),(1,.row 49 1 [.agg [.il 12 (aW B)]])]) [(2,2),(0,0),(1,1)] (by rfl)
  ⟨aJ 2 (eJ G),aJ 0 (.cons (Gs A) .nil),aJ 1 (.cons (Gs B) .nil),trivial⟩ (.cons (.same _ (Gs B)) (.cons (.fzR (id:=13) rfl rfl (.eq (ys:=aT (0::raw)) (aQ _) rfl) (by rw[aD,aD];simp;omega)) .nil)) ?_
 have nq:NN (.il 1 (aT (Bj B (0::raw)))):=.il' (aQ _);refine hFB.goG ?_ (.cons (Gs B) (.cons (.il' (aQ _)) .nil)) (.tup' (.cons nq (.cons nn .nil)));have hpI:=H4 cA raw hr;have hqI:=H4 cB (0::raw) (fun x hx=>by
  rcases List.mem_cons.1 hx with rfl|hx
  ·exact⟨by decide,by decide⟩
  ·exact hr x hx)
 generalize Bj A raw=p at *;generalize Bj B (0::raw)=q at *;clear hFA hFB hL;refine Rt ?_;refine a9.at gR (fun x:Nat × List Gr=>x.1<=G.length/\x.2.length=G.length/\∀g∈x.2,Ec g)
  (fun x=>⟨[(9,.ptr 0 0 0),(10,.ptr 1 0 0),(11,.sl 2 0 G.length),(12,.il 1 (aT p)),(14,.il 1 (aT q)),(16,.int .i64 x.1)],[(0,.row 49 1 [.agg [.il 12 (aW A)]]),(1,.row 49 1 [.agg [.il 12 (aW B)]]),(2,.row 37 5 (eB x.2))],3,174⟩) (fun x=>G.length-x.1) (0,G) [(0,0),(1,1),(2,2)] ⟨by simp,rfl,fun g hg=>⟨(hG2 g hg).1,by have:=(hG2 g hg).2.1;omega,by have:=(hG2 g hg).2.2.1;omega⟩⟩
  (aE _ rfl ⟨aJ 0 (.cons (Gs A) .nil),aJ 1 (.cons (Gs B) .nil),aJ 2 (eJ G),trivial⟩ ⟨aK,aK,⟨_,rfl,.sl 2 2 0 _ rfl⟩,aR np,aR nq,aF,trivial⟩) ?_
 rintro⟨i,H⟩ ⟨hi,hHl,hH⟩;simp only at hi hHl hH;have lH:=l7 H;refine Rr ?_;refine aH (fun hb=>?_) (fun hb=>?_)
 ·rw[hb];have hlt:i<G.length:=by have:=of_decide_eq_true hb;simp at this;omega
  have e:(eB H)[0+((i:Nat):Int).toNat]? = some (oI (H[i]'om)):=by rw[Nat.zero_add];exact v6 om
  have hg:=hH _ (List.getElem_mem (show i<H.length by omega));have m3:(i:Int).tmod 3=((i%3:Nat):Int):=by rw[Int.tmod_eq_emod_of_nonneg om];omega
  have bl:Nat.blt ((i:Nat):Int).toNat G.length=true:=Nat.ble_eq_true_of_le (by simp;omega);generalize H[i]'_=g at e hg;obtain⟨g1,⟨g2,g3,g4⟩,gf⟩:=g;refine Rr ?_;rw[m3];have nA:=Gs A;have nB:=Gs B;have hst:∀(g:Gr),Ec g->∀x∈H.set i g,Ec x:=fun g hg x hx=>by
   rcases List.mem_or_eq_of_mem_set hx with h|h
   ·exact hH x h
   ·subst h;exact hg
  have h3:i%3=0∨i%3=1∨i%3=2:=om;rcases h3 with h|h|h<;>rw[h]
  ·refine Rr ?_;rw[m3,h];refine Rr ?_;exact .mk (i+1,H) [(0,0),(1,1),(2,2)] ⟨by simp only;omega,hHl,hH⟩ (aE _ rfl ⟨aJ 0 (.cons nA .nil),aJ 1 (.cons nB .nil),aJ 2 (eJ H),trivial⟩ ⟨aK,aK,⟨_,rfl,.sl 2 2 0 _ rfl⟩,aR np,aR nq,⟨_,rfl,.w64 (by simp) ⟨by simp only;omega,by simp only;omega⟩⟩,trivial⟩) (by simp only;omega)
  ·refine Rt ?_;repeat((first|refine aP bl ?_|refine aC e ?_);refine Rt ?_)
   rw[m3,h];refine Rr ?_;exact .mk (i+1,H.set i ⟨p,⟨g2,g3,g4⟩,gf⟩) [(0,0),(1,1),(2,2)] ⟨by simp only;omega,by simp[hHl],hst _ ⟨hpI.2,by simp only;omega,hg.2.2⟩⟩ (aE _ rfl ⟨aJ 0 (.cons nA .nil),aJ 1 (.cons nB .nil),⟨2,_,rfl,rfl,.eq (eJ _) (by rw[Bw];simp[oI])⟩,trivial⟩ ⟨aK,aK,⟨_,rfl,.sl 2 2 0 _ rfl⟩,aR np,aR nq,⟨_,rfl,.w64 (by simp) ⟨by simp only;omega,by simp only;omega⟩⟩,trivial⟩) (by simp only;omega)
  ·refine Rr ?_;rw[m3,h];refine Rt ?_;repeat((first|refine aP bl ?_|refine aC e ?_);refine Rt ?_)
   exact .mk (i+1,H.set i ⟨q,⟨g2,g3,g4⟩,gf⟩) [(0,0),(1,1),(2,2)] ⟨by simp only;omega,by simp[hHl],hst _ ⟨hqI.2,by simp only;omega,hg.2.2⟩⟩ (aE _ rfl ⟨aJ 0 (.cons nA .nil),aJ 1 (.cons nB .nil),⟨2,_,rfl,rfl,.eq (eJ _) (by rw[Bw];simp[oI])⟩,trivial⟩ ⟨aK,aK,⟨_,rfl,.sl 2 2 0 _ rfl⟩,aR np,aR nq,⟨_,rfl,.w64 (by simp) ⟨by simp only;omega,by simp only;omega⟩⟩,trivial⟩) (by simp only;omega)
 ·rw[hb]
  conv=>whnf
  have nA:=Gs A;have nB:=Gs B;have nH:NN (.il 5 (eB H)):=.il' (eJ H);have hW:=Q6 H om (fun g hg=>(hH g hg).2.2);refine dI.conv (s':=⟨[(9,.ptr 0 0 0),(10,.ptr 1 0 0),(11,.il 5 (eB H))],[(0,.row 49 1 [.agg [.il 12 (aW A)]]),(1,.row 49 1 [.agg [.il 12 (aW B)]])],2,174⟩) gR
   (aE [(0,0),(1,1)] rfl ⟨aJ 0 (.cons nA .nil),aJ 1 (.cons nB .nil),trivial⟩ ⟨aK,aK,⟨_,rfl,.fzR (id:=2) rfl rfl (.same (eJ H)) (by show (eB H).length=_;omega)⟩,trivial⟩) ?_
  refine Rr ?_;refine hW.goG ?_ (.cons nH .nil) nH;refine Rr ?_;refine a9.at gR (fun i:Nat=>i<=H.length)
   (fun i=>⟨[(9,.ptr 0 0 0),(10,.ptr 1 0 0),(11,.il 5 (eB H)),(17,.il 5 (eB H)),(18,.int .i64 i)],[(0,.row 49 1 [.agg [.il 12 (aW A)]]),(1,.row 49 1 [.agg [.il 12 (aW B)]])],2,174⟩) (fun i=>H.length-i) 0 [(0,0),(1,1)] (by simp)
   (aE _ rfl ⟨aJ 0 (.cons nA .nil),aJ 1 (.cons nB .nil),trivial⟩ ⟨aK,aK,aR nH,aR nH,aF,trivial⟩) ?_
  clear hb hi i;intro i hi;refine Rr ?_;refine aH (fun hb=>?_) (fun hb=>?_)
  ·rw[hb];have hlt:i<H.length:=by have:=of_decide_eq_true hb;omega
   have ei:=v6 hlt;have gi:=hH _ (List.getElem_mem hlt);have s1:=Pf cA gi;have v1:=tV cA gi;have hs3:=fun(j:Nat) (hj:j<H.length)=>Pc cA cB gi (hH _ (List.getElem_mem hj))
   generalize H[i]=x at *;refine Rr ?_;refine a9.at gR (fun j:Nat=>j<=H.length)
    (fun j=>⟨[(9,.ptr 0 0 0),(10,.ptr 1 0 0),(11,.il 5 (eB H)),(17,.il 5 (eB H)),(18,.int .i64 i),(19,.int .i64 j)],[(0,.row 49 1 [.agg [.il 12 (aW A)]]),(1,.row 49 1 [.agg [.il 12 (aW B)]])],2,174⟩) (fun j=>H.length-j) 0 [(0,0),(1,1)] (by simp)
    (aE _ rfl ⟨aJ 0 (.cons nA .nil),aJ 1 (.cons nB .nil),trivial⟩ ⟨aK,aK,aR nH,aR nH,aF,aF,trivial⟩) ?_
   intro j hj;refine Rr ?_;refine aH (fun hb2=>?_) (fun hb2=>?_)
   ·rw[hb2];have hltj:j<H.length:=by have:=of_decide_eq_true hb2;omega
    have ej:=v6 hltj;obtain⟨s,c1,c2,c3⟩:=hs3 j hltj;generalize H[j]=y at *;have nx:=wG x;have ny:=wG y;obtain⟨x1,⟨x2,x3,x4⟩,xf⟩:=x;obtain⟨y1,⟨y2,y3,y4⟩,yf⟩:=y;refine Rr ?_;repeat((first|refine aC ei ?_|refine aC ej ?_|refine aX ?_);refine Rr ?_)
    have hss:(!s == s)=false:=by cases s<;>rfl
    refine c1.goG ?_ (.cons nA (.cons nB (.cons nx (.cons ny .nil)))) nn;refine Rr ?_;repeat((first|refine aC ei ?_|refine aC ej ?_|refine aX ?_);refine Rr ?_)
    refine c2.goG ?_ (.cons nA (.cons nB (.cons nx (.cons ny .nil)))) nn;refine Rr ?_;repeat((first|refine aC ei ?_|refine aC ej ?_|refine aX ?_);refine Rr ?_)
    rw[hss];refine Rr ?_;repeat((first|refine aC ei ?_|refine aC ej ?_|refine aX ?_);refine Rr ?_)
    refine c1.goG ?_ (.cons nA (.cons nB (.cons nx (.cons ny .nil)))) nn;refine Rr ?_;repeat((first|refine aC ei ?_|refine aC ej ?_|refine aX ?_);refine Rr ?_)
    refine c3.goG ?_ (.cons nB (.cons nA (.cons ny (.cons nx .nil)))) nn;refine Rr ?_;repeat((first|refine aC ei ?_|refine aC ej ?_|refine aX ?_);refine Rr ?_)
    rw[hss];refine Rr ?_;exact .mk (j+1) [(0,0),(1,1)] om (aE _ rfl ⟨aJ 0 (.cons nA .nil),aJ 1 (.cons nB .nil),trivial⟩ ⟨aK,aK,aR nH,aR nH,aF,⟨_,rfl,.w64 om ⟨om,om⟩⟩,trivial⟩) om
   ·rw[hb2];have nx:=wG x;obtain⟨x1,⟨x2,x3,x4⟩,xf⟩:=x;have np1:NN (.il 1 (aT x1)):=.il' (aQ x1);simp only at v1 s1;generalize fD A x1=E at *;generalize eI A x1=V at *;have nV:=bM V;obtain⟨V1,V2,V3,V4⟩:=V;refine Rr ?_;repeat((first|refine aC ei ?_|refine aX ?_);refine Rr ?_)
    refine v1.goG ?_ (.cons nA (.cons np1 .nil)) (.tup' (.cons nV (.cons nn .nil)));refine Rr ?_;repeat((first|refine aC ei ?_|refine aX ?_);refine Rr ?_)
    refine s1.goG ?_ (.cons nA (.cons nA (.cons nx (.cons nx .nil)))) nn;refine Rr ?_;repeat((first|refine aC ei ?_|refine aX ?_);refine Rr ?_)
    have hf:pI 1 2 (Gr.mk x1 ⟨x2,x3,x4⟩ xf).oc=(x2 == 1 || x2 == 2):=by
     show (decide (x2=1) || decide (x2=2))=_
     rw[Bool.eq_iff_iff];simp
    rw[hf];by_cases hE:E=0
    ·subst hE;refine Rr ?_;repeat((first|refine aC ei ?_|refine aX ?_);refine Rr ?_)
     by_cases h1:x2=1
     ·subst h1;refine Rr ?_;repeat((first|refine aC ei ?_|refine aX ?_);refine Rr ?_)
      exact .mk (i+1) [(0,0),(1,1)] om (aE _ rfl ⟨aJ 0 (.cons nA .nil),aJ 1 (.cons nB .nil),trivial⟩ ⟨aK,aK,aR nH,aR nH,⟨_,rfl,.w64 om ⟨om,om⟩⟩,trivial⟩) om
     ·rw[show (x2 == 1)=false by simpa using h1];refine Rr ?_;repeat((first|refine aC ei ?_|refine aX ?_);refine Rr ?_)
      have hz:(!(decide ((0:Int)=0) && (false || x2 == 2)) == (x2 == 2))=false:=by cases (x2 == 2)<;>rfl
      rw[hz];refine Rr ?_;exact .mk (i+1) [(0,0),(1,1)] om (aE _ rfl ⟨aJ 0 (.cons nA .nil),aJ 1 (.cons nB .nil),trivial⟩ ⟨aK,aK,aR nH,aR nH,⟨_,rfl,.w64 om ⟨om,om⟩⟩,trivial⟩) om
    ·rw[show (E == 0)=false by simpa using hE,decide_eq_false hE];refine Rr ?_;repeat((first|refine aC ei ?_|refine aX ?_);refine Rr ?_)
     exact .mk (i+1) [(0,0),(1,1)] om (aE _ rfl ⟨aJ 0 (.cons nA .nil),aJ 1 (.cons nB .nil),trivial⟩ ⟨aK,aK,aR nH,aR nH,⟨_,rfl,.w64 om ⟨om,om⟩⟩,trivial⟩) om
  ·rw[hb];refine Rr ?_;refine hLv.use gR .nil (.bool true) ?_;refine Rr ?_;exact aB (.bool _) ⟨rfl,rfl,rfl⟩
end Go.Proofs.YtobknjmfgjaehaaGreatDoor
namespace Go.Ax
open Go
def wL(f:AV->Option AV):List AV->Option (List AV)
 | []=>some []
 | a::r=>match f a with
  | none=>none
  | some b=>match wL f r with
   | none=>none
   | some t=>some (b::t)
def frz:Nat->List (Nat × Nat)->aN->AV->Option AV
 | 0,_,_,_=>none
 | n+1,σ,m,v=>match v with
  | .bool b=>some (.bool b)
  | .int k i=>some (.int k i)
  | .str s=>some (.str s)
  | .nptr=>some .nptr
  | .nsl=>some .nsl
  | .nmap=>some .nmap
  | .nfn=>some .nfn
  | .nif=>some .nif
  | .sl id off len=>match lk σ id with
   | none=>match lk m id with
    | some (.row t sz xs)=>match Nat.ble (off+len) xs.length with
     | true=>match wL (frz n σ m) ((xs.drop off).take len) with
      | some ys=>some (.il sz ys)
      | none=>none
     | false=>none
    | _=>none
   | some _=>none
  | .il sz xs=>match wL (frz n σ m) xs with
   | some ys=>some (.il sz ys)
   | none=>none
  | .ifc t v=>match frz n σ m v with
   | some v'=>some (.ifc t v')
   | none=>none
  | .agg cs=>match wL (frz n σ m) cs with
   | some ys=>some (.agg ys)
   | none=>none
  | .tup cs=>match wL (frz n σ m) cs with
   | some ys=>some (.tup ys)
   | none=>none
  | _=>none
structure wH(m:aN)(σ:List (Nat × Nat))(v v':AV):Prop where
 cv:Cv m σ v v'
 nn:NN v'
 ce:jL m σ v.cells v'.cells
theorem wH.len{m:aN}{σ:List (Nat × Nat)}{v v':AV}(h:wH m σ v v'):v.cells.length=v'.cells.length:=h.ce.1
theorem gS{m:aN}{σ:List (Nat × Nat)}{f:AV->Option AV}(hf:∀v v',f v=some v'->wH m σ v v'):∀{l l':List AV},wL f l=some l'->l.length=l'.length/\∀(j:Nat) (a b:AV),l[j]? = some a->l'[j]? = some b->wH m σ a b
 | [],l',h=>by simp only[wL] at h;cases h;exact⟨rfl,fun j a b h=>by simp at h⟩
 | a::r,l',h=>by
  simp only[wL] at h;split at h
  ·cases h
  ·rename_i b hb;split at h
   ·cases h
   ·rename_i t ht;cases h;obtain⟨h1,h2⟩:=gS hf ht;refine⟨by simp[h1],fun j x y hx hy=>?_⟩;cases j with
    | zero=>simp at hx hy;subst hx hy;exact hf _ _ hb
    | succ j=>simp at hx hy;exact h2 j x y hx hy
theorem s6{m:aN}{σ:List (Nat × Nat)}{l l':List AV}(h1:l.length=l'.length)(h2:∀(j:Nat) (a b:AV),l[j]? = some a->l'[j]? = some b->wH m σ a b):iW l':=fun b hb=>by
 obtain⟨j,hj⟩:=List.getElem?_of_mem hb;obtain⟨a,ha⟩:=cQ h1 hj;exact(h2 j a b ha hj).nn
theorem wH.one{m:aN}{σ:List (Nat × Nat)}{v v':AV}(h1:v.cells=[v])(h2:v'.cells=[v'])(hc:Cv m σ v v')(hn:NN v'):wH m σ v v':=
 ⟨hc,hn,by rw[h1,h2];exact jL.cons hc .nil⟩
theorem kU{m:aN}{σ:List (Nat × Nat)}:∀(n:Nat) (v v':AV),frz n σ m v=some v'->wH m σ v v'
 | 0,v,v',h=>by simp[frz] at h
 | n+1,v,v',h=>by
  have ih:=kU (m:=m) (σ:=σ) n;cases v with
  | bool b=>simp only[frz] at h;cases h;exact .one rfl rfl (.same _ (.bool b)) (.bool b)
  | int k i=>simp only[frz] at h;cases h;exact .one rfl rfl (.same _ (.int k i)) (.int k i)
  | str s=>simp only[frz] at h;cases h;exact .one rfl rfl (.same _ (.str s)) (.str s)
  | nptr=>simp only[frz] at h;cases h;exact .one rfl rfl (.same _ .nptr) .nptr
  | nsl=>simp only[frz] at h;cases h;exact .one rfl rfl (.same _ .nsl) .nsl
  | nmap=>simp only[frz] at h;cases h;exact .one rfl rfl (.same _ .nmap) .nmap
  | nfn=>simp only[frz] at h;cases h;exact .one rfl rfl (.same _ .nfn) .nfn
  | nif=>simp only[frz] at h;cases h;exact .one rfl rfl (.same _ .nif) .nif
  | ptr id i j=>simp[frz] at h
  | mp id=>simp[frz] at h
  | ip v=>simp[frz] at h
  | fn f a b=>simp[frz] at h
  | junk=>simp[frz] at h
  | yld id=>simp[frz] at h
  | sl id off len=>
   simp only[frz] at h;split at h
   ·rename_i hs;split at h
    ·rename_i t sz xs hx;split at h
     ·rename_i hle;split at h
      ·rename_i ys hy;cases h;have hle:=Nat.le_of_ble_eq_true hle;obtain⟨h1,h2⟩:=gS ih hy;have hget:∀(i:Nat) (x y:AV),xs[off+i]? = some x->ys[i]? = some y->wH m σ x y:=fun i x y hx hy=>by
        refine h2 i x y ?_ hy;have hlt:i<ys.length:=(List.getElem?_eq_some_iff.1 hy).1;rw[←h1] at hlt;rw[List.getElem?_take,if_pos (by simp at hlt;omega),List.getElem?_drop];exact hx
       refine .one rfl rfl (.fz id off len t sz xs ys hx hs hle (by rw[←h1];simp;omega) (fun i x y hx hy=>(hget i x y hx hy).len) fun i x y j c c' hx hy hc hc'=>(hget i x y hx hy).ce.2 j c c' hc hc') ?_;exact NN.il' (s6 h1 h2)
      ·cases h
     ·cases h
    ·cases h
   ·cases h
  | il sz xs=>
   simp only[frz] at h;split at h
   ·rename_i ys hy;cases h;obtain⟨h1,h2⟩:=gS ih hy;refine .one rfl rfl (.il sz xs ys h1 (fun i x y hx hy=>(h2 i x y hx hy).len) fun i x y j c c' hx hy hc hc'=>(h2 i x y hx hy).ce.2 j c c' hc hc') ?_;exact NN.il' (s6 h1 h2)
   ·cases h
  | ifc t v=>
   simp only[frz] at h;split at h
   ·rename_i v' hv;cases h;exact .one rfl rfl (.ifc t v v' (ih v v' hv).cv) (.ifc t v' (ih v v' hv).nn)
   ·cases h
  | agg cs=>
   simp only[frz] at h;split at h
   ·rename_i ys hy;cases h;obtain⟨h1,h2⟩:=gS ih hy;have hl:jL m σ cs ys:=⟨h1,fun j c c' hc hc'=>(h2 j c c' hc hc').cv⟩
    exact⟨.agg' hl,.agg' (s6 h1 h2),hl⟩
   ·cases h
  | tup cs=>
   simp only[frz] at h;split at h
   ·rename_i ys hy;cases h;obtain⟨h1,h2⟩:=gS ih hy;have hl:jL m σ cs ys:=⟨h1,fun j c c' hc hc'=>(h2 j c c' hc hc').cv⟩
    exact .one rfl rfl (.tup' hl) (.tup' (s6 h1 h2))
   ·cases h
theorem MC{m:aN}{args bs:List AV}(n:Nat)(h:wL (frz n [] m) args=some bs):jL m [] args bs:=by
 obtain⟨h1,h2⟩:=gS (kU n) h;exact⟨h1,fun j c c' hc hc'=>(h2 j c c' hc hc').cv⟩
def Mz:aN->List (Nat × Nat)
 | []=>[]
 | (i,_)::r=>(i,i)::Mz r
theorem OZ{mem:aN}:∀{i:Nat} {b:AB},lk mem i=some b->lk (Mz mem) i=some i:=by
 induction mem with
 | nil=>intro i b h;simp[lk] at h
 | cons p r ih=>
  intro i b h;obtain⟨j,u⟩:=p;simp only[lk] at h;simp only[Mz,lk];split at h
  ·rename_i e;rw[Nat.eq_of_beq_eq_true e]
  ·exact ih h
def Hr(m:aN):aN->Bool
 | []=>true
 | (i,b)::r=>(match b with
  | .row t sz xs=>match lk m i with
   | some (.row t' sz' xs')=>match wL (frz 30 [] []) xs with
    | some ys=>Nat.beq t t' && (Nat.beq sz sz' && (nL xs' xs && nL ys xs))
    | none=>false
   | _=>false
  | _=>false) && Hr m r
theorem zB{m:aN}(σ:List (Nat × Nat)):∀{mem:aN},Hr m mem=true->(∀p∈mem,lk σ p.1=some p.1)->cM m σ mem
 | [],h,hs=>trivial
 | (i,b)::r,h,hs=>by
  simp only[Hr,Bool.and_eq_true] at h;refine⟨?_,zB σ h.2 fun p hp=>hs p (List.mem_cons_of_mem _ hp)⟩;have h:=h.1;split at h
  ·rename_i t sz xs;split at h
   ·rename_i t' sz' xs' hl;split at h
    ·rename_i ys hy;simp only[Bool.and_eq_true] at h;obtain⟨h1,h2,h3,h4⟩:=h;have e1:=Nat.eq_of_beq_eq_true h1;have e2:=Nat.eq_of_beq_eq_true h2;have e3:=gJ h3;have e4:=gJ h4;subst e1 e2 e3 e4;obtain⟨g1,g2⟩:=gS (kU 30) hy;exact⟨i,ys,hs _ (List.mem_cons_self ..),hl,.same (s6 g1 g2)⟩
    ·cases h
   ·cases h
  ·cases h
def RA(mem:aN)(want r:AV)(m:aN):Bool:=
 match frz 30 (Mz mem) m r with
 | some v=>match jJ v want with
  | true=>Hr m mem
  | false=>false
 | none=>false
def RC(mem:aN)(want r:AV)(m:aN):Prop:=
 match RA mem want r m with
 | true=>True
 | false=>False
theorem MY:∀{mem:aN},(mem.map (·.1)).Nodup->∀p∈mem,lk (Mz mem) p.1=some p.1:=by
 intro mem hn p hp;have:∃b,lk mem p.1=some b:=by
  clear hn
  induction mem with
  | nil=>cases hp
  | cons q r ih=>
   obtain⟨j,u⟩:=q;simp only[lk];split
   ·exact⟨u,rfl⟩
   ·rename_i e;rcases List.mem_cons.1 hp with rfl|hp
    ·simp at e
    ·exact ih hp
 obtain⟨b,hb⟩:=this;exact OZ hb
def BH(nx:Nat):aN->aN->(aN->aN->Prop)->Prop
 | [],acc,K=>K acc []
 | (i,b)::r,acc,K=>match Nat.ble nx i with
  | true=>BH nx r ((i,b)::acc) K
  | false=>K acc ((i,b)::r)
def Fz(f:AV->(AV->Prop)->Prop->Prop):List AV->(List AV->Prop)->Prop->Prop
 | [],K,_=>K []
 | a::r,K,N=>f a (fun b=>Fz f r (fun t=>K (b::t)) N) N
def IP:Nat->aN->AV->(AV->Prop)->Prop->Prop
 | 0,_,_,_,N=>N
 | n+1,m,v,K,N=>match v with
  | .bool b=>K (.bool b)
  | .int k i=>K (.int k i)
  | .str s=>K (.str s)
  | .nptr=>K .nptr
  | .nsl=>K .nsl
  | .nmap=>K .nmap
  | .nfn=>K .nfn
  | .nif=>K .nif
  | .sl id off len=>match lk m id with
   | some (.row t sz xs)=>match Nat.ble (off+len) xs.length with
    | true=>Fz (IP n m) ((xs.drop off).take len) (fun ys=>K (.il sz ys)) N
    | false=>N
   | _=>N
  | .il sz xs=>Fz (IP n m) xs (fun ys=>K (.il sz ys)) N
  | .ifc t v=>IP n m v (fun v'=>K (.ifc t v')) N
  | .agg cs=>Fz (IP n m) cs (fun ys=>K (.agg ys)) N
  | .tup cs=>Fz (IP n m) cs (fun ys=>K (.tup ys)) N
  | _=>N
theorem xZ{f:AV->(AV->Prop)->Prop->Prop}{g:AV->Option AV}{N:Prop}(hf:∀v K,f v K N->N∨∃v',g v=some v'/\K v'):∀{l:List AV} {K:List AV->Prop},Fz f l K N->N∨∃l',wL g l=some l'/\K l'
 | [],K,h=>.inr ⟨[],rfl,h⟩
 | a::r,K,h=>by
  rcases hf a _ h with h|⟨b,h1,h⟩
  ·exact .inl h
  ·rcases xZ hf h with h|⟨t,h2,h⟩
   ·exact .inl h
   ·exact .inr ⟨b::t,by simp only[wL,h1,h2],h⟩
theorem Jo{m:aN}{N:Prop}:∀(n:Nat) (v:AV) (K:AV->Prop),IP n m v K N->N∨∃v',frz n [] m v=some v'/\K v'
 | 0,v,K,h=>.inl h
 | n+1,v,K,h=>by
  have ih:=Jo (m:=m) (N:=N) n;cases v with
  | bool b=>exact .inr ⟨_,rfl,h⟩
  | int k i=>exact .inr ⟨_,rfl,h⟩
  | str s=>exact .inr ⟨_,rfl,h⟩
  | nptr=>exact .inr ⟨_,rfl,h⟩
  | nsl=>exact .inr ⟨_,rfl,h⟩
  | nmap=>exact .inr ⟨_,rfl,h⟩
  | nfn=>exact .inr ⟨_,rfl,h⟩
  | nif=>exact .inr ⟨_,rfl,h⟩
  | ptr id i j=>exact .inl h
  | mp id=>exact .inl h
  | ip v=>exact .inl h
  | fn f a b=>exact .inl h
  | junk=>exact .inl h
  | yld id=>exact .inl h
  | sl id off len=>
   simp only[IP] at h;split at h
   ·rename_i t sz xs hx;split at h
    ·rename_i hle;rcases xZ ih h with h|⟨ys,h1,h⟩
     ·exact .inl h
     ·exact .inr ⟨_,by simp only[frz,lk,hx,hle,h1],h⟩
    ·exact .inl h
   ·exact .inl h
  | il sz xs=>
   simp only[IP] at h;rcases xZ ih h with h|⟨ys,h1,h⟩
   ·exact .inl h
   ·exact .inr ⟨_,by simp only[frz,h1],h⟩
  | ifc t v=>
   simp only[IP] at h;rcases ih v _ h with h|⟨v',h1,h⟩
   ·exact .inl h
   ·exact .inr ⟨_,by simp only[frz,h1],h⟩
  | agg cs=>
   simp only[IP] at h;rcases xZ ih h with h|⟨ys,h1,h⟩
   ·exact .inl h
   ·exact .inr ⟨_,by simp only[frz,h1],h⟩
  | tup cs=>
   simp only[IP] at h;rcases xZ ih h with h|⟨ys,h1,h⟩
   ·exact .inl h
   ·exact .inr ⟨_,by simp only[frz,h1],h⟩
def RM(nx:Nat)(K:AV->aN->Nat->Prop)(r:AV)(m:aN)(n:Nat):Prop:=
 BH nx m [] fun m1 rest=>IP 60 m1 r (fun r'=>K r' rest n) (K r m n)
theorem AJ{nx:Nat}:∀{m acc:aN} {K:aN->aN->Prop},BH nx m acc K->∃m0 rest,m=m0++rest/\K (m0.reverse++acc) rest
 | [],acc,K,h=>⟨[],[],rfl,h⟩
 | (i,b)::r,acc,K,h=>by
  simp only[BH] at h;split at h
  ·obtain⟨m0,rest,h1,h2⟩:=AJ h;exact⟨(i,b)::m0,rest,by rw[h1];rfl,by simpa using h2⟩
  ·exact⟨[],(i,b)::r,rfl,h⟩
theorem MR.sub{Γ:List (Nat × AV)}{X:Nat->Prop}{ρ:Nat->cU}{D:Nat->Prop}{mem rest:aN}{w:World}(hm:MR Γ X ρ D mem w)(hs:∀p∈rest,p∈mem)(hn:(rest.map (·.1)).Nodup):MR Γ X ρ D rest w:=by
 have ho:∀b,¬OX X ρ mem b->¬OX X ρ rest b:=by
  rintro b h (h'|⟨p,hp,h1,h2⟩)
  ·exact h (.inl h')
  ·exact h (.inr ⟨p,hs p hp,h1,h2⟩)
 refine⟨fun p h=>hm.low p (hs p h),fun p h hn=>?_,fun p h=>hm.emp p (hs p h),fun p h q h'=>hm.inj p (hs p h) q (hs q h'),hn,fun b hb=>⟨(hm.bar b hb).1,fun⟨p,hp,h1,h2⟩=>(hm.bar b hb).2 ⟨p,hs p hp,h1,h2⟩⟩,fun p h=>(hm.glo p h).mono (fun _ _=>rfl) (fun _ h=>h) fun b _ h=>⟨ho b h,rfl⟩⟩;obtain⟨o,h1,h2⟩:=hm.blk p (hs p h) hn;exact⟨o,h1,h2.mono (fun _ _=>rfl) (fun _ h=>h) fun b _ h=>⟨ho b h,rfl⟩⟩
theorem JN{P:Program}{Γ:List (Nat × AV)}(hΓ:∀p∈Γ,NN p.2){F:FuncId}{args:List AV}{mem:aN}{nx:Nat}{K:AV->aN->Nat->Prop}{Kp:Value->aN->Nat->Prop}(h:bI P Γ F args mem nx (RM nx K) Kp):bI P Γ F args mem nx K Kp:=by
 refine⟨fun X D ρ w vs hD hm hv=>(h.run X D ρ w vs hD hm hv).mono ?_⟩;rintro e w' ⟨m',n',ρ',hn,hm',hext,hend⟩;rcases hend with⟨r,v,rfl,hq,hr⟩|⟨x,rfl,hq⟩
 ·obtain⟨m0,rest,rfl,hq⟩:=AJ hq;rw[List.append_nil] at hq;rcases Jo 60 r _ hq with hq|⟨r',h1,hq⟩
  ·exact⟨_,n',ρ',hn,hm',hext,.inl ⟨r,v,rfl,hq,hr⟩⟩
  ·have hnd:=hm'.nod;rw[List.map_append,List.nodup_append] at hnd;obtain⟨d1,d2,d3⟩:=hnd;have hp:rC (m0++rest) m0.reverse rest:=⟨fun p h=>List.mem_append_left _ (List.mem_reverse.1 h),fun p h=>List.mem_append_right _ h,fun p h=>by
    rcases List.mem_append.1 h with h|h
    ·exact .inl (List.mem_reverse.2 h)
    ·exact .inr h,fun p h1 q h2=>d3 _ (List.mem_map.2 ⟨p,List.mem_reverse.1 h1,rfl⟩) _ (List.mem_map.2 ⟨q,h2,rfl⟩),by
    rw[List.map_reverse];exact List.pairwise_reverse.2 (d1.imp fun h=>Ne.symm h)⟩
   obtain⟨p1,pv⟩:=hm'.part hp;have hF:=kU (m:=m0.reverse) (σ:=[]) 60 r r' h1;obtain⟨-,v1,-⟩:=rJ (σ:=[]) (m':=[]) (n':=n') hΓ hD p1 (fun p hp=>by cases hp) List.nodup_nil (fun i j k h=>by simp[lk] at h) (fun i j h=>by simp[lk] at h);have e:iG [] ρ' ρ'=ρ':=funext fun i=>sV (by rintro⟨j,h⟩;simp[lk] at h)
   have hv':=v1 r r' hF.cv v (pv _ _ hr);rw[e] at hv';refine⟨rest,n',ρ',hn,hm'.sub (fun p h=>List.mem_append_right _ h) d2,⟨hext.le,hext.agree,hext.size,hext.keep,fun p h=>hext.fresh p (List.mem_append_right _ h),hext.env⟩,.inl ⟨r',v,rfl,hq,hv'.mono (fun _ _=>rfl) (fun _ h=>h) fun b _ ho=>⟨fun h=>ho (.inl ?_),rfl⟩⟩⟩;exact h
 ·exact⟨m',n',ρ',hn,hm',hext,.inr ⟨x,rfl,hq⟩⟩
def MZ:List (Nat × List AV × AV)->Nat->List AV->(AV->Prop)->Prop->Prop
 | [],_,_,_,N=>N
 | (G,as',r)::t,F,args,K,N=>match Nat.beq G F with
  | true=>match nL args as' with
   | true=>K r
   | false=>MZ t F args K N
  | false=>MZ t F args K N
def g8(P:Program)(Γ:List (Nat × AV))(tb:List (Nat × List AV × AV)):Prop:=∀e∈tb,a8 P Γ e.1 e.2.1 e.2.2/\iW e.2.1/\NN e.2.2
theorem J1{P:Program}{Γ:List (Nat × AV)}(hΓ:∀p∈Γ,NN p.2){F:Nat}{args:List AV}{mem:aN}{nx:Nat}{K:AV->aN->Nat->Prop}{N:Prop}:∀{tb:List (Nat × List AV × AV)},g8 P Γ tb->MZ tb F args (fun r=>K r mem nx) N->N∨aG P Γ F args mem nx K
 | [],_,h=>.inl h
 | (G,as',r)::t,ht,h=>by
  have h2:g8 P Γ t:=fun e he=>ht e (List.mem_cons_of_mem _ he)
  simp only[MZ] at h;split at h
  ·rename_i hG;split at h
   ·rename_i he;have e1:=Nat.eq_of_beq_eq_true hG;have e2:=gJ he;subst e1 e2;obtain⟨g1,g2,g3⟩:=ht _ (List.mem_cons_self ..);exact .inr (g1.use hΓ g2 g3 h)
   ·exact J1 hΓ h2 h
  ·exact J1 hΓ h2 h
theorem g8.nil{P:Program}{Γ:List (Nat × AV)}:g8 P Γ []:=fun e h=>by cases h
theorem g8.cons{P:Program}{Γ:List (Nat × AV)}{F:Nat}{xs:List AV}{r:AV}{t:List (Nat × List AV × AV)}(h:a8 P Γ F xs r)(h1:wL (frz 30 [] []) xs=some xs)(h2:frz 30 [] [] r=some r)(ht:g8 P Γ t):g8 P Γ ((F,xs,r)::t):=by
 intro e he;rcases List.mem_cons.1 he with rfl|he
 ·obtain⟨g1,g2⟩:=gS (m:=[]) (σ:=[]) (kU 30) h1;exact⟨h,s6 g1 g2,(kU (m:=[]) (σ:=[]) 30 r r h2).nn⟩
 ·exact ht e he
end Go.Ax
namespace Go.Ax
open Go
noncomputable def QV{α:Type}(l:List (Nat × α))(j:Nat)(K:α->Prop):Prop:=
 List.rec (motive:=fun _=>Prop) False (fun p _ ih=>Prod.rec (motive:=fun _=>Prop) (fun i v=>Bool.rec (motive:=fun _=>Prop) ih (K v) (Nat.beq i j)) p) l
theorem GA{α:Type}(j:Nat)(K:α->Prop):∀l:List (Nat × α),QV l j K=opt (lk l j) K
 | []=>rfl
 | (i,v)::r=>by
  have ih:=GA j K r
  show Bool.rec (motive:=fun _=>Prop) (QV r j K) (K v) (Nat.beq i j)=opt (lk ((i,v)::r) j) K
  rw[ih];simp only[lk];cases Nat.beq i j<;>rfl
noncomputable def QT{α:Type}(l:List (Nat × α))(j:Nat)(v:α):(List (Nat × α)->Prop)->Prop:=
 List.rec (motive:=fun _=>(List (Nat × α)->Prop)->Prop) (fun K=>K [(j,v)]) (fun p r ih=>fun K=>Prod.rec (motive:=fun _=>Prop) (fun i u=>Bool.rec (motive:=fun _=>Prop) (ih fun l=>K ((i,u)::l)) (K ((i,v)::r)) (Nat.beq i j)) p) l
theorem Jy{α:Type}(j:Nat)(v:α):∀(l:List (Nat × α)) (K:List (Nat × α)->Prop),QT l j v K=EU l j v K
 | [],K=>rfl
 | (i,u)::r,K=>by
  have ih:=Jy j v r fun l=>K ((i,u)::l)
  show Bool.rec (motive:=fun _=>Prop) (QT r j v fun l=>K ((i,u)::l)) (K ((i,v)::r)) (Nat.beq i j)=EU ((i,u)::r) j v K
  rw[ih];simp only[EU];cases Nat.beq i j<;>rfl
def Qo(v:Value)(K:AV->Prop):Prop:=
 match v with
 | .string s=>sJ s.data.toList fun l=>K (.str l)
 | v=>opt (uG v) K
noncomputable def kD(Γ:List (Nat × AV))(sl:List (Nat × AV))(x:Operand)(K:AV->Prop):Prop:=
 Operand.rec (motive:=fun _=>Prop) (fun t=>QV sl t K) (fun v=>Qo v K) (fun g=>QV Γ g fun v=>K (.ip v)) (fun f=>K (.fn (.func f) [] [])) x
theorem Hg(Γ sl:List (Nat × AV))(x:Operand)(K:AV->Prop):kD Γ sl x K=i5 Γ sl x K:=by
 cases x with
 | tmp t=>exact GA t K sl
 | const v=>cases v<;>rfl
 | global g=>exact GA g (fun v=>K (.ip v)) Γ
 | func f=>rfl
theorem AK:kD=i5:=by funext Γ sl x K;exact Hg Γ sl x K
def Pm(Γ sl:List (Nat × AV))(K:AV->Prop)(a b:Operand)(c:AV):Prop:=match c with
 | .bool c=>JK c (i5 Γ sl a K) (i5 Γ sl b K)
 | _=>False
def Pa(P:Program)(mem:aN)(nx:Nat)(src dst:TypeId)(a:AV)(K:AV->aN->Nat->Prop):Prop:=match P.underlying dst with
  | some (.slice _)=>sP true P mem nx src dst a K
  | _=>HH true P mem src dst a fun v=>K v mem nx
section
variable (P:Program) (Γ:List (Nat × AV)) (H:Hk) (sl:List (Nat × AV)) (mem:aN) (nx:Nat) (K:AV->aN->Nat->Prop) (Kp:Value->aN->Nat->Prop)
noncomputable def J8(x:Operand):Prop:=kD Γ sl x fun v=>K v mem nx
noncomputable def M7(c a b:Operand):Prop:=kD Γ sl c (Pm Γ sl (fun v=>K v mem nx) a b)
noncomputable def P2(t:TypeId)(x:Operand):Prop:=kD Γ sl x fun v=>Oe P mem nx t v K
noncomputable def ND(t:TypeId)(x:Operand):Prop:=kD Γ sl x fun p=>FB P mem t p fun v=>K v mem nx
noncomputable def Kt(t:TypeId)(x y:Operand):Prop:=kD Γ sl x fun p=>kD Γ sl y fun v=>DW P mem t p v fun m=>K (.tup []) m nx
noncomputable def Oq(x:Operand):Prop:=kD Γ sl x fun p=>opt (Jh p) fun v=>K v mem nx
noncomputable def PE(op:BinOp)(t:TypeId)(x y:Operand):Prop:=kD Γ sl x fun a=>kD Γ sl y fun b=>Mi true P op t x y a b fun v=>K v mem nx
noncomputable def RH(op:UnOp)(x:Operand):Prop:=kD Γ sl x fun a=>QU true op a fun v=>K v mem nx
noncomputable def NA(src dst:TypeId)(x:Operand):Prop:=kD Γ sl x fun a=>Pa P mem nx src dst a K
noncomputable def RE(t:TypeId)(x:Operand)(f:Nat):Prop:=kD Γ sl x fun p=>pL P t f p fun v=>K v mem nx
noncomputable def Q7(t:TypeId)(x:Operand)(f:Nat):Prop:=kD Γ sl x fun p=>Du P t f p fun v=>K v mem nx
noncomputable def Q8(t:TypeId)(x ix:Operand):Prop:=kD Γ sl x fun p=>kD Γ sl ix fun i=>pV true P mem t p i fun v=>K v mem nx
noncomputable def RL(t:TypeId)(x ix:Operand):Prop:=kD Γ sl x fun p=>kD Γ sl ix fun i=>Dn true P t p i fun v=>K v mem nx
noncomputable def RB(x:Operand)(i:Nat):Prop:=kD Γ sl x fun p=>opt (rI p i) fun v=>K v mem nx
noncomputable def NE(t:TypeId)(x ix:Operand)(ok:Bool):Prop:=kD Γ sl x fun p=>kD Γ sl ix fun i=>opt (v9 P mem t p i ok) fun v=>K v mem nx
noncomputable def Qc(t:TypeId)(x y z:Operand):Prop:=kD Γ sl x fun p=>kD Γ sl y fun k=>kD Γ sl z fun v=>mQ P mem t p k v fun m=>K (.tup []) m nx
noncomputable def QA(x:Operand):Prop:=kD Γ sl x fun v=>opt (quo v) fun y=>Kp y mem nx
def OB(t:TypeId)(parts:Array (Nat × Operand)):Prop:=oO Γ sl parts.toList fun ps=>DF P t ps fun v=>K v mem nx
def RP(t:TypeId)(len:Nat)(parts:Array (Nat × Operand)):Prop:=oO Γ sl parts.toList fun ps=>nQ P mem nx t len ps K
noncomputable def Ll(ce:Callee)(args:Array Operand)(ts:Array TypeId):Prop:=
 Callee.rec (motive:=fun _=>Prop) (fun f=>HZ P Γ sl f args.toList (fun v=>K v mem nx) fun F l=>H.call F l mem nx K Kp) (fun _ _=>False) (fun b=>w6 true P Γ sl mem nx b args.toList ts.toList K) ce
noncomputable def PS(c:Call):Prop:=Call.rec (motive:=fun _=>Prop) (fun ce args ts=>Ll P Γ H sl mem nx K Kp ce args ts) c
def jD(op:Op):Prop:=Az true P Γ H sl mem nx op K Kp
noncomputable def PO(op:Op):Prop:=
 Op.rec (motive:=fun _=>Prop)
  (J8 Γ sl mem nx K) (J8 Γ sl mem nx K) (M7 Γ sl mem nx K) (fun t=>Dh P mem nx t K) (P2 P Γ sl mem nx K) (OB P Γ sl mem nx K) (RP P Γ sl mem nx K)
  (Qc P Γ sl mem nx K) (ND P Γ sl mem nx K) (Kt P Γ sl mem nx K) (fun g=>jD P Γ H sl mem nx K Kp (.ready g)) (fun g=>jD P Γ H sl mem nx K Kp (.waits g)) (Oq Γ sl mem nx K)
  (fun op t x y _=>PE P Γ sl mem nx K op t x y) (fun op _ x=>RH Γ sl mem nx K op x) (NA P Γ sl mem nx K) (fun t x=>jD P Γ H sl mem nx K Kp (.sliceToArrayPointer t x)) (fun t x=>jD P Γ H sl mem nx K Kp (.makeInterface t x))
  (fun a b c=>jD P Γ H sl mem nx K Kp (.makeFunc a b c)) (fun a b=>jD P Γ H sl mem nx K Kp (.makeMap a b)) (fun a b=>jD P Γ H sl mem nx K Kp (.makeChan a b)) (fun a b c=>jD P Γ H sl mem nx K Kp (.makeSlice a b c))
  (fun a b c d e=>jD P Γ H sl mem nx K Kp (.slice a b c d e)) (RE P Γ sl mem nx K) (Q7 P Γ sl mem nx K) (Q8 P Γ sl mem nx K) (RL P Γ sl mem nx K) (NE P Γ sl mem nx K) (Qc P Γ sl mem nx K)
  (fun a b c=>jD P Γ H sl mem nx K Kp (.mapEntry a b c)) (fun a b c d=>jD P Γ H sl mem nx K Kp (.entryStore a b c d)) (fun a b=>jD P Γ H sl mem nx K Kp (.range a b)) (fun a b=>jD P Γ H sl mem nx K Kp (.next a b)) (fun a=>jD P Γ H sl mem nx K Kp (.entry a))
  (fun a b c d=>jD P Γ H sl mem nx K Kp (.typeAssert a b c d)) (RB Γ sl mem nx K) (PS P Γ H sl mem nx K Kp) (fun c=>jD P Γ H sl mem nx K Kp (.go c)) (fun c=>jD P Γ H sl mem nx K Kp (.defer c)) (QA Γ sl mem nx Kp)
  (fun a b=>jD P Γ H sl mem nx K Kp (.send a b)) (fun a b c=>jD P Γ H sl mem nx K Kp (.recv a b c)) (fun a b=>jD P Γ H sl mem nx K Kp (.select a b)) op
theorem OY(op:Op):PO P Γ H sl mem nx K Kp op=Az true P Γ H sl mem nx op K Kp:=by
 cases op with
 | call c=>
  obtain⟨ce,args,ts⟩:=c;cases ce<;>rfl
 | pick c a b=>simp only[PO,M7,AK];first|done|rfl
 | convert a b c=>simp only[PO,NA,AK];first|done|rfl
 | _=>first|rfl|(simp only[PO,J8,P2,ND,Kt,Oq,PE,RH,RE,Q7,Q8,RL,RB,NE,Qc,QA,AK];first|done|rfl)
end
noncomputable def NW(sl:List (Nat × AV))(nt:Nat)(d:Option Nat)(v:AV)(mem:aN)(nx:Nat)(K:St->Prop):Prop:=
 Option.rec (motive:=fun _=>Prop) (K ⟨sl,mem,nx,nt⟩) (fun d=>Bool.rec (motive:=fun _=>Prop) False (QT sl d v fun sl=>K ⟨sl,mem,nx,nt⟩) (Nat.blt d nt)) d
theorem LD(sl:List (Nat × AV))(m0:aN)(n0 nt:Nat)(d:Option Nat)(v:AV)(mem:aN)(nx:Nat)(K:St->Prop):NW sl nt d v mem nx K=iU ⟨sl,m0,n0,nt⟩ d v mem nx K:=by
 cases d with
 | none=>rfl
 | some d=>
  show Bool.rec (motive:=fun _=>Prop) False (QT sl d v _) (Nat.blt d nt)=m7 (Nat.blt d nt) (EU sl d v _)
  rw[Jy];cases Nat.blt d nt<;>rfl
noncomputable def KP(ops:List Oper)(sl:List (Nat × AV))(g:Option (Nat × Bool))(yes no:Prop):Prop:=
 Option.rec (motive:=fun _=>Prop) yes (fun p=>mU ops sl (some p) yes no) g
theorem JZ(ops:List Oper)(sl:List (Nat × AV))(g:Option (Nat × Bool))(yes no:Prop):KP ops sl g yes no=mU ops sl g yes no:=by cases g<;>rfl
section
variable (P:Program) (Γ:List (Nat × AV)) (H:Hk)
noncomputable def M0(ops:List Oper)(Kp:Value->St->Prop)(ih:St->Prop)(sl:List (Nat × AV))(mem:aN)(nx nt:Nat)(o:Oper):Prop:=
 Oper.rec (motive:=fun _=>Prop) (fun dst op _ _ _ g=>KP ops sl g (PO P Γ H sl mem nx (fun v mem nx=>NW sl nt dst v mem nx ih) (fun x mem nx=>Kp x ⟨sl,mem,nx,nt⟩) op) (NW sl nt dst (.tup []) mem nx ih)) o
noncomputable def L9(ops:List Oper)(K:St->Prop)(Kp:Value->St->Prop)(l:List Oper):St->Prop:=
 List.rec (motive:=fun _=>St->Prop) K (fun o r ih=>fun s=>St.rec (motive:=fun _=>Prop) (fun sl mem nx nt=>M0 P Γ H ops Kp ih sl mem nx nt o) s) l
theorem Hl(ops:List Oper)(K:St->Prop)(Kp:Value->St->Prop):∀(l:List Oper) (s:St),L9 P Γ H ops K Kp l s=G3 true P Γ H ops l s K Kp
 | [],s=>rfl
 | o::r,s=>by
  have ih:L9 P Γ H ops K Kp r=fun s=>G3 true P Γ H ops r s K Kp:=funext fun s=>Hl ops K Kp r s
  obtain⟨sl,mem,nx,nt⟩:=s
  show M0 P Γ H ops Kp (L9 P Γ H ops K Kp r) sl mem nx nt o=_
  rw[ih];obtain⟨dst,op,ty,pos,aft,g⟩:=o
  show KP ops sl g _ _=mU ops sl g _ _
  rw[JZ,OY];simp only[LD sl mem nx nt];first|done|rfl
def Pj(k:St->Prop)(Q:Exit->St->Prop)(e:Exit)(s:St):Prop:=match e with
 | .normal=>k s
 | e=>Q e s
def Ql(id:Nat)(Q:Exit->St->Prop)(e:Exit)(s:St):Prop:=match e with
 | .exit i=>match Nat.beq i id with
  | true=>Q .normal s
  | false=>Q (.exit i) s
 | e=>Q e s
def Qt(Q:Exit->St->Prop)(e:Exit)(s:St):Prop:=match e with
 | .goto _=>False
 | e=>Q e s
def O4(x y:Prop)(v:AV):Prop:=match v with
 | .bool b=>JK b x y
 | _=>False
noncomputable def Q4(id:Nat)(ops:Array Oper)(draw:Bool)(s:St)(Q:Exit->St->Prop):Prop:=
 Bool.rec (motive:=fun _=>Prop) (L9 P Γ H ops.toList (Q .normal) (fun x s'=>Q (.panic [pe x]) s') ops.toList s) (vJ true P Γ H (.region id ops true) s Q) draw
noncomputable def Q3(c:Operand)(x y:St->(Exit->St->Prop)->Prop)(s:St)(Q:Exit->St->Prop):Prop:=
 St.rec (motive:=fun _=>Prop) (fun sl _ _ _=>kD Γ sl c (O4 (x s Q) (y s Q))) s
noncomputable def zE(c:Code):St->(Exit->St->Prop)->Prop:=
 Code.rec (motive:=fun _=>St->(Exit->St->Prop)->Prop)
  (fun s Q=>Q .normal s)
  (Q4 P Γ H)
  (fun _ _ ihx ihy=>fun s Q=>ihx s (Pj (fun s'=>ihy s' Q) Q))
  (fun c _ _ ihx ihy=>Q3 Γ c ihx ihy)
  (fun id _ ih=>fun s Q=>ih s (Ql id Q))
  (fun b _=>fun s Q=>H.loop b s Q)
  (fun g ps ca cb _ _=>fun s Q=>vJ true P Γ H (.rangeFunc g ps ca cb) s Q)
  (fun i=>fun s Q=>Q (.exit i) s)
  (fun _ ih=>fun s Q=>ih s (Qt Q))
  (fun _=>fun s Q=>Q .normal s)
  (fun _=>fun _ _=>False)
  (fun s Q=>Q .ret s)
  (fun _=>fun _ _=>False) c
theorem Hc:∀(c:Code) (s:St) (Q:Exit->St->Prop),zE P Γ H c s Q=vJ true P Γ H c s Q:=by
 intro c
 induction c with
 | seq x y ihx ihy=>
  intro s Q
  show zE P Γ H x s (Pj (fun s'=>zE P Γ H y s' Q) Q)=_
  rw[ihx];have:(fun s'=>zE P Γ H y s' Q)=fun s'=>vJ true P Γ H y s' Q:=funext fun s'=>ihy s' Q
  rw[this];rfl
 | cond c x y ihx ihy=>
  intro s Q;obtain⟨sl,mem,nx,nt⟩:=s
  show kD Γ sl c (O4 (zE P Γ H x _ Q) (zE P Γ H y _ Q))=_
  rw[ihx,ihy,Hg];rfl
 | block id c ih=>intro s Q;exact ih s _
 | scope c ih=>intro s Q;exact ih s _
 | region id ops draw=>
  intro s Q;cases draw with
  | true=>rfl
  | false=>exact Hl P Γ H _ _ _ _ s
 | _=>intro s Q;rfl
end
def PN(F:Nat):List (Nat × List AV × AV)->Bool
 | []=>false
 | (G,_,_)::r=>match Nat.beq G F with
  | true=>true
  | false=>PN F r
def Q0(ts:List (Nat × List AV × AV))(F:Nat)(args:List AV)(mem:aN)(K:AV->Prop)(N:Prop):Prop:=match PN F ts with
 | false=>N
 | true=>Fz (IP 60 mem) args (fun as'=>MZ ts F as' K N) N
theorem Mx{F:Nat}{args:List AV}{K:AV->Prop}{N:Prop}:∀{tb:List (Nat × List AV × AV)},MZ tb F args K N->N∨∃r,(F,args,r)∈tb/\K r
 | [],h=>.inl h
 | (G,as',r)::t,h=>by
  simp only[MZ] at h;have hr:MZ t F args K N->N∨∃r',(F,args,r')∈(G,as',r)::t/\K r':=fun h=>(Mx h).imp id fun⟨r',h1,h2⟩=>⟨r',List.mem_cons_of_mem _ h1,h2⟩
  split at h
  ·rename_i hG;split at h
   ·rename_i he;have e1:=Nat.eq_of_beq_eq_true hG;have e2:=gJ he;subst e1 e2;exact .inr ⟨r,List.mem_cons_self ..,h⟩
   ·exact hr h
  ·exact hr h
def tP(P:Program)(Γ:List (Nat × AV))(ts:List (Nat × List AV × AV)):Prop:=∀e∈ts,a8 P Γ e.1 e.2.1 e.2.2/\Sc e.2.2
theorem tP.nil{P:Program}{Γ:List (Nat × AV)}:tP P Γ []:=fun e h=>by cases h
theorem tP.cons{P:Program}{Γ:List (Nat × AV)}{F:Nat}{xs:List AV}{r:AV}{t:List (Nat × List AV × AV)}(h:a8 P Γ F xs r)(h1:Sc r)(ht:tP P Γ t):tP P Γ ((F,xs,r)::t):=by
 intro e he;rcases List.mem_cons.1 he with rfl|he
 ·exact⟨h,h1⟩
 ·exact ht e he
theorem QJ{P:Program}{Γ:List (Nat × AV)}(hΓ:∀p∈Γ,NN p.2){F:Nat}{args:List AV}{mem:aN}{nx:Nat}{K:AV->aN->Nat->Prop}{N:Prop}{ts:List (Nat × List AV × AV)}(ht:tP P Γ ts)(h:Q0 ts F args mem (fun r=>K r mem nx) N):N∨aG P Γ F args mem nx K:=by
 unfold Q0 at h;split at h
 ·exact .inl h
 ·rcases xZ (fun v K h=>Jo 60 v K h) h with h|⟨as',h1,h⟩
  ·exact .inl h
  ·rcases Mx h with h|⟨r,h2,h⟩
   ·exact .inl h
   ·obtain⟨g1,g2⟩:=ht _ h2;exact .inr (g1.lend hΓ (MC 60 h1) g2 h)
def L1:List (AV × AV)->List (AV × AV)->Bool
 | [],[]=>true
 | (a,b)::r,(c,d)::t=>jJ a c && (jJ b d && L1 r t)
 | _,_=>false
theorem HL:∀{l m:List (AV × AV)},L1 l m=true->l=m
 | [],[],_=>rfl
 | (a,b)::r,(c,d)::t,h=>by
  simp only[L1,Bool.and_eq_true] at h;rw[pR h.1,pR h.2.1,HL h.2.2]
 | [],_::_,h=>by cases h
 | _::_,[],h=>by cases h
def Hq:aN->aN->Bool
 | [],[]=>true
 | (i,a)::r,(j,b)::t=>Nat.beq i j && ((match a,b with
  | .row t1 s1 xs,.row t2 s2 ys=>Nat.beq t1 t2 && (Nat.beq s1 s2 && nL xs ys)
  | .mapb es,.mapb es'=>L1 es es'
  | _,_=>false) && Hq r t)
 | _,_=>false
theorem FQ:∀{l m:aN},Hq l m=true->l=m
 | [],[],_=>rfl
 | (i,a)::r,(j,b)::t,h=>by
  simp only[Hq,Bool.and_eq_true] at h;obtain⟨h1,h2,h3⟩:=h;rw[Nat.eq_of_beq_eq_true h1,FQ h3];split at h2
  ·simp only[Bool.and_eq_true] at h2;rw[Nat.eq_of_beq_eq_true h2.1,Nat.eq_of_beq_eq_true h2.2.1,gJ h2.2.2]
  ·rw[HL h2]
  ·cases h2
 | [],_::_,h=>by cases h
 | _::_,[],h=>by cases h
structure Xf where
 F:Nat
 args:List AV
 mem:aN
 nx:Nat
 r:AV
 m:aN
 n:Nat
def Xf.ok(P:Program)(Γ:List (Nat × AV))(x:Xf):Prop:=aG P Γ x.F x.args x.mem x.nx fun r m n=>r=x.r/\m=x.m/\n=x.n
def PW:List Xf->Nat->List AV->aN->Nat->(AV->aN->Nat->Prop)->Prop->Prop
 | [],_,_,_,_,_,N=>N
 | x::t,F,args,mem,nx,K,N=>match Nat.beq x.F F with
  | true=>match Nat.beq x.nx nx && (nL args x.args && Hq mem x.mem) with
   | true=>K x.r x.m x.n
   | false=>PW t F args mem nx K N
  | false=>PW t F args mem nx K N
theorem Ja{P:Program}{Γ:List (Nat × AV)}{F:Nat}{args:List AV}{mem:aN}{nx:Nat}{K:AV->aN->Nat->Prop}{N:Prop}:∀{t:List Xf},(∀x∈t,x.ok P Γ)->PW t F args mem nx K N->N∨aG P Γ F args mem nx K
 | [],_,h=>.inl h
 | x::t,ht,h=>by
  have h2:∀x∈t,x.ok P Γ:=fun e he=>ht e (List.mem_cons_of_mem _ he)
  simp only[PW] at h;split at h
  ·rename_i hF;split at h
   ·rename_i he;simp only[Bool.and_eq_true] at he;have e1:=Nat.eq_of_beq_eq_true hF;have e2:=Nat.eq_of_beq_eq_true he.1;have e3:=gJ he.2.1;have e4:=FQ he.2.2;subst e1 e2 e3 e4;exact .inr ((ht x (List.mem_cons_self ..)).mono fun r m n ⟨h1,h2,h3⟩=>by rw[h1,h2,h3];exact h)
   ·exact Ja h2 h
  ·exact Ja h2 h
def GK(f:AV->List Nat->List Nat):List AV->List Nat->List Nat
 | [],acc=>acc
 | a::r,acc=>GK f r (f a acc)
def zJ:Nat->AV->List Nat->List Nat
 | 0,_,acc=>acc
 | n+1,v,acc=>match v with
  | .ptr id _ _=>id::acc
  | .sl id _ _=>id::acc
  | .mp id=>id::acc
  | .yld id=>id::acc
  | .ip v=>zJ n v acc
  | .il _ xs=>GK (zJ n) xs acc
  | .fn _ a b=>GK (zJ n) b (GK (zJ n) a acc)
  | .ifc _ v=>zJ n v acc
  | .agg xs=>GK (zJ n) xs acc
  | .tup xs=>GK (zJ n) xs acc
  | _=>acc
def P8:List (AV × AV)->List Nat->List Nat
 | [],acc=>acc
 | (a,b)::r,acc=>P8 r (zJ 60 b (zJ 60 a acc))
def O3:List (Nat × AV)->List Nat->List Nat
 | [],acc=>acc
 | (_,a)::r,acc=>O3 r (zJ 60 a acc)
def P3(b:AB)(acc:List Nat):List Nat:=match b with
 | .row _ _ xs=>GK (zJ 60) xs acc
 | .mapb es=>P8 es acc
 | .loop sl _ _ _ _ _ _=>O3 sl acc
 | .iter1 mid _=>mid::acc
def Pz:aN->List Nat->List Nat
 | [],acc=>acc
 | (_,b)::r,acc=>Pz r (P3 b acc)
def Jm(nx:Nat)(m:aN):Nat->List Nat->List Nat->List Nat
 | 0,todo,eD=>todo++eD
 | _+1,[],eD=>eD
 | f+1,i::t,eD=>match Nat.ble nx i with
  | false=>Jm nx m f t eD
  | true=>match Iv i eD with
   | true=>Jm nx m f t eD
   | false=>match lk m i with
    | none=>Jm nx m f t eD
    | some b=>Jm nx m f (P3 b t) (i::eD)
def Em(eD:List Nat):aN->(aN->Prop)->Prop
 | [],K=>K []
 | (i,b)::r,K=>match Iv i eD with
  | true=>Em eD r fun m=>K ((i,b)::m)
  | false=>Em eD r K
def RK(nx:Nat)(K:AV->aN->Nat->Prop)(r:AV)(m:aN)(n:Nat):Prop:=
 BH nx m [] fun m1 rest=>sJ (Jm nx m 100000 (zJ 60 r (Pz rest [])) []) fun eD=>Em eD m1.reverse fun m2=>yA m2 rest fun m=>K r m n
theorem Dm{eD:List Nat}:∀{m:aN} {K:aN->Prop},Em eD m K->∃m',List.Sublist m' m/\K m'
 | [],K,h=>⟨[],.slnil,h⟩
 | (i,b)::r,K,h=>by
  simp only[Em] at h;split at h
  ·obtain⟨m',h1,h2⟩:=Dm h;exact⟨_,h1.cons_cons _,h2⟩
  ·obtain⟨m',h1,h2⟩:=Dm h;exact⟨_,h1.cons _,h2⟩
theorem I1{P:Program}{Γ:List (Nat × AV)}{F:FuncId}{args:List AV}{mem:aN}{nx:Nat}{K:AV->aN->Nat->Prop}{Kp:Value->aN->Nat->Prop}(h:bI P Γ F args mem nx (RK nx K) Kp):bI P Γ F args mem nx K Kp:=by
 refine⟨fun X D ρ w vs hD hm hv=>(h.run X D ρ w vs hD hm hv).mono ?_⟩;rintro e w' ⟨m',n',ρ',hn,hm',hext,hend⟩;rcases hend with⟨r,v,rfl,hq,hr⟩|⟨x,rfl,hq⟩
 ·obtain⟨m0,rest,rfl,hq⟩:=AJ hq;rw[List.append_nil,List.reverse_reverse] at hq;obtain⟨m2,hs,hq⟩:=Dm (jF.1 hq);have hq:=fN.1 hq;have hsub:List.Sublist (m2++rest) (m0++rest):=hs.append (List.Sublist.refl rest);have hin:∀p∈m2++rest,p∈m0++rest:=fun p hp=>hsub.subset hp
  have hnd:((m2++rest).map (·.1)).Nodup:=hm'.nod.sublist (hsub.map _);have ho:∀b,¬OX X ρ' (m0++rest) b->¬OX X ρ' (m2++rest) b:=by
   rintro b h (h'|⟨p,hp,h1,h2⟩)
   ·exact h (.inl h')
   ·exact h (.inr ⟨p,hin p hp,h1,h2⟩)
  exact⟨m2++rest,n',ρ',hn,hm'.sub hin hnd,⟨hext.le,hext.agree,hext.size,hext.keep,fun p h=>hext.fresh p (hin p h),hext.env⟩,.inl ⟨r,v,rfl,hq,hr.mono (fun _ _=>rfl) (fun _ h=>h) fun b _ h=>⟨ho b h,rfl⟩⟩⟩
 ·exact⟨m',n',ρ',hn,hm',hext,.inr ⟨x,rfl,hq⟩⟩
theorem K3(P:Program)(Γ:List (Nat × AV))(H:Hk):zE P Γ H=vJ true P Γ H:=funext fun c=>funext fun s=>funext fun Q=>Hc P Γ H c s Q
noncomputable def K8(P:Program)(Γ:List (Nat × AV))(H:Hk)(tx:List Xf)(ts tb:List (Nat × List AV × AV))(dl pl gl:List Nat)(F:Nat)(args:List AV)(mem:aN)(nx:Nat)(K:AV->aN->Nat->Prop)(Kp:Value->aN->Nat->Prop):Prop:=
 PW tx F args mem nx K (MZ tb F args (fun r=>K r mem nx) (Q0 ts F args mem (fun r=>K r mem nx) (match Nat.beq F YF with
    | false=>match P.funcs[F]? with
     | some fn=>match fn.body with
      | some c=>match Iv F dl with
       | false=>match Iv F pl with
        | false=>match Iv F gl with
         | false=>pK fn.ntmps args mem nx fun s=>zE P Γ H c s (CV P fn.results.toList K Kp)
         | true=>pK fn.ntmps args mem nx fun s=>zE P Γ H c s (CV P fn.results.toList (RK nx K) Kp)
        | true=>pK fn.ntmps args mem nx fun s=>zE P Γ H c s (CV P fn.results.toList (RM nx K) Kp)
       | true=>pK fn.ntmps args mem nx fun s=>Fw true P Γ H c s (BA P Γ H fn.results.toList K Kp)
      | none=>False
     | none=>False
    | true=>Gi P Γ H args mem nx K)))
def PF(H:Hk)(c:Code)(Q:Exit->St->Prop)(e:Exit)(s':St):Prop:=match e with
 | .normal=>H.loop c s' Q
 | e=>Q e s'
noncomputable def yT(P:Program)(Γ:List (Nat × AV))(tx:List Xf)(ts tb:List (Nat × List AV × AV))(dl pl gl:List Nat)(n:Nat):Hk:=
 Nat.rec (motive:=fun _=>Hk) ⟨fun _ _ _ _ _ _=>False,fun _ _ _=>False⟩ (fun _ H=>⟨K8 P Γ H tx ts tb dl pl gl,fun c s Q=>zE P Γ H c s (PF H c Q)⟩) n
theorem FO(P:Program)(Γ:List (Nat × AV))(hΓ:∀p∈Γ,NN p.2){tx:List Xf}{ts tb:List (Nat × List AV × AV)}(hx':∀x∈tx,x.ok P Γ)(hs':tP P Γ ts)(ht:g8 P Γ tb)(dl pl gl:List Nat):∀n B,wA P Γ B (yT P Γ tx ts tb dl pl gl n) /\
  ∀c s Q,(yT P Γ tx ts tb dl pl gl n).loop c s Q->∀rd X ds D ρ a w,(∀i,D i->i<B)->SR Γ X ds ρ (dn D B s.nx) s a w->B<=s.nx->yX rd ds c ->
   Code.roundsIn (FW rd) 0 P c (fun e a' w'=>∃(s':St) (ρ':Nat->cU),Q e s'/\B<=s'.nx/\SR Γ X ds ρ' (dn D B s'.nx) s' a' w'/\Ext D ρ s.mem w ρ' (dn D B s'.nx) s'.mem w') n a w:=by
 intro n
 induction n with
 | zero=>exact fun B=>⟨⟨fun _ _ _ _ _ _ h=>h.elim,fun _ _ _ h=>h.elim⟩,fun _ _ _ h=>h.elim⟩
 | succ n ih=>
  intro B;have hr:∀c s Q,(yT P Γ tx ts tb dl pl gl (n+1)).loop c s Q->∀rd X ds D ρ a w,(∀i,D i->i<B)->SR Γ X ds ρ (dn D B s.nx) s a w->B<=s.nx->yX rd ds c ->
    Code.roundsIn (FW rd) 0 P c (fun e a' w'=>∃(s':St) (ρ':Nat->cU),Q e s'/\B<=s'.nx/\SR Γ X ds ρ' (dn D B s'.nx) s' a' w'/\Ext D ρ s.mem w ρ' (dn D B s'.nx) s'.mem w') (n+1) a w:=by
   intro c s Q h rd X ds D ρ a w hD hs hB hno;have h:zE P Γ (yT P Γ tx ts tb dl pl gl n) c s (PF (yT P Γ tx ts tb dl pl gl n) c Q):=h;rw[Hc] at h;have h':=(dS (ih B).1 c s _ h).run rd X ds D ρ a w hD hs hB hno;rw[roundsIn_succ];refine wpIn_mono h' ?_;rintro e a1 w1 ⟨s1,ρ1,hq,hB1,hs1,hext⟩;cases e with
   | normal=>
    have key:=(ih B).2 c s1 Q hq rd X ds D ρ1 a1 w1 hD hs1 hB1 hno;refine yI n a1 w1 _ _ ?_ key;rintro e a2 w2 ⟨s2,ρ2,h1,h2,h3,h4⟩;exact⟨s2,ρ2,h1,h2,h3,hext.trans h4⟩
   | exit id=>exact⟨s1,ρ1,hq,hB1,hs1,hext⟩
   | goto l=>exact⟨s1,ρ1,hq,hB1,hs1,hext⟩
   | ret=>exact⟨s1,ρ1,hq,hB1,hs1,hext⟩
   | panic ch=>exact⟨s1,ρ1,hq,hB1,hs1,hext⟩
   | outgrown=>exact⟨s1,ρ1,hq,hB1,hs1,hext⟩
  refine⟨⟨fun F args mem nx K Kp h=>?_,fun c s Q h=>⟨fun rd X ds D ρ a w hD hs hB hno=>wpIn_loop_rounds (n+1) (hr c s Q h rd X ds D ρ a w hD hs hB hno.loop)⟩⟩,hr⟩
  replace h:K8 P Γ (yT P Γ tx ts tb dl pl gl n) tx ts tb dl pl gl F args mem nx K Kp:=h
  simp only[K8,K3] at h;rcases Ja (K:=K) hx' h with h0|h'
  rotate_left
  ·exact h'.toP
  clear h;rcases J1 (K:=K) hΓ ht h0 with h'|h'
  rotate_left
  ·exact h'.toP
  clear h0;rcases QJ (K:=K) hΓ hs' h' with h|h'
  rotate_left
  ·exact h'.toP
  split at h
  ·rename_i hF;split at h
   ·rename_i fn hf;split at h
    ·rename_i c hc;split at h
     ·split at h
      ·split at h
       ·exact jZ hf hc ((dS (ih nx).1 _ _ _ (gV h)).mono fun _ _ h=>zT h) hF
       ·exact I1 (jZ hf hc ((dS (ih nx).1 _ _ _ (gV h)).mono fun _ _ h=>zT h) hF)
      ·exact JN hΓ (jZ hf hc ((dS (ih nx).1 _ _ _ (gV h)).mono fun _ _ h=>zT h) hF)
     ·exact qN hf hc (G2 (fun B=>(ih B).1) nx _ _ _ (gV h)) hF
    ·exact h.elim
   ·exact h.elim
  ·rename_i hF;have e:=Nat.eq_of_beq_eq_true hF;subst e;exact DV (fun B=>(ih B).1) h
theorem AN{P:Program}{Γ:List (Nat × AV)}(hΓ:∀p∈Γ,NN p.2){tx:List Xf}{ts tb:List (Nat × List AV × AV)}(hx':∀x∈tx,x.ok P Γ)(hs':tP P Γ ts)(ht:g8 P Γ tb){F:FuncId}{args:List AV}{mem:aN}{nx:Nat}{Q:AV->aN->Nat->Prop}(dl pl gl:List Nat)(n:Nat)(h:(yT P Γ tx ts tb dl pl gl n).call F args mem nx Q fun _ _ _=>False):aG P Γ F args mem nx Q:=
 ((FO P Γ hΓ hx' hs' ht dl pl gl n nx).1.call F args mem nx Q _ h).toC fun _ _ _ h=>h
theorem d7{P:Program}{Γ:List (Nat × AV)}{F:FuncId}{args:List AV}{mem:aN}{nx:Nat}{want:AV}(hΓ:∀p∈Γ,NN p.2){tx:List Xf}{ts tb:List (Nat × List AV × AV)}(hx':∀x∈tx,x.ok P Γ)(hs':tP P Γ ts)(ht:g8 P Γ tb)(dl pl gl:List Nat)(n:Nat)
  (hc:(lC (Mz mem) && (kW mem && (xG nx nx (Mz mem) && Nat.ble nx nx)))=true)
  (h:((yT P Γ tx ts tb dl pl gl n).call F args mem nx (fun r m _=>RC mem want r m) fun _ _ _=>False)=True):aG P Γ F args mem nx fun r m k=>r=want/\m=mem/\k=nx:=by
 refine aG.turn hΓ ((AN hΓ hx' hs' ht dl pl gl n (by rw[h];trivial)).mono fun r m k hk=>?_);unfold RC at hk;split at hk
 ·rename_i hb;unfold RA at hb;split at hb
  ·rename_i v hv;split at hb
   ·rename_i he;have e:=pR he;subst e;have hn:(mem.map (·.1)).Nodup:=by
     simp only[Bool.and_eq_true] at hc;exact dE hc.2.1
    exact bN (Mz mem) hc (zB _ hb (MY hn)) (kU 30 r v hv).cv ⟨rfl,rfl,rfl⟩
   ·cases hb
  ·cases hb
 ·exact hk.elim
theorem oB{P:Program}{Γ:List (Nat × AV)}:∀x∈([]:List Xf),x.ok P Γ:=fun x h=>by cases h
end Go.Ax
