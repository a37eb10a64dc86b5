/- A part of the proof. -/
import Derived.Test.YtpajadlnaokngaaGreatDoorAx18
import Derived.Test.YtpajadlnaokngaaGreatDoorProg
import Derived.KernelRfl
import Derived.Recover
set_option linter.unusedVariables false
set_option linter.unusedSimpArgs false
set_option linter.unusedSectionVars false
namespace Go.Proofs.YtpajadlnaokngaaGreatDoor
open Go Go.Ax Go.Proofs Tryz
set_option maxRecDepth 100000
set_option maxHeartbeats 16000000
def l8:List (List UInt8):=[[45,49],[48],[50],[48,50],[45,48],[97],[57,50,50,51,51,55,50,48,51,54,56,53,52,55,55,53,56,48,56],[]]
def LB:List (List UInt8):=[120]::(l8++uP)
theorem GW{s:List UInt8}(h:s∈LB):s.length<=19:=by
 simp only[LB,l8,uP,Rf,Rb,Qw,List.not_mem_nil,or_false] at h;rcases h with rfl|rfl|rfl|rfl|rfl|rfl|rfl|rfl|rfl|rfl|rfl|rfl|rfl<;>simp
set_option maxHeartbeats 16000000
theorem HE:∀s∈uP,s∈LB:=fun s hs=>by unfold LB;exact RA _ (Rp _ hs)
theorem O3(l:List Int)(hl:∀x∈l,i64 x){Γ:List (Nat × AV)}{mem:aN}{nx:Nat}{K:AV->aN->Nat->Prop}(hk:∀ns:List Nd,g9 ns->ns.length<=14->K (.agg [.il 12 (aY ns)]) mem nx):aF prog Γ 5 [.il 1 (aW l)] mem nx K:=by
 refine aF.goG0 (P2 l hl) ?_;rintro r m n ⟨ns,hT,hlen,rfl,rfl,rfl⟩;exact⟨.agg [.il 12 (aY ns)],.agg' (.cons (.fz' (id:=0) rfl rfl (by rw[bF];omega) (by rw[Re];exact RJ (by rw[bF];omega)) (aS _)) .nil),hk ns hT hlen⟩
theorem M0{mem:aN}{σ:List (Nat × Nat)}{xs ys:List AV}{i:Nat}{x y:AV}(hs:r9 mem σ xs ys)(h:E6 mem σ x y):r9 mem σ (xs.set i x) (ys.set i y):=by
 refine⟨by simp;exact hs.1,fun j a b ha hb=>?_⟩;rw[SD] at ha hb;split at ha
 ·rename_i e;rw[Q3 e] at hb;split at ha
  ·split at hb
   ·cases ha;cases hb;exact h
   ·cases hb
  ·cases ha
 ·rename_i e;rw[Qz e] at hb;exact hs.2 j a b ha hb
theorem o6{mem:aN}{X:Nd}{a b:AV}(j:Nat)(h:Cv mem [] a b):E6 mem [] (.agg ((bL X).cells.set j a)) (.agg ((bL X).cells.set j b)):=by
 refine E6.agg ⟨by simp,fun i c c' h1 h2=>?_⟩;rw[SD] at h1 h2;split at h1
 ·rename_i e;rw[Q3 e] at h2;split at h1
  ·rename_i e2;rw[Q3 e2] at h2;cases h1;cases h2;exact h
  ·cases h1
 ·rename_i e;rw[Qz e] at h2;rw[h1] at h2;cases h2;exact(lL.same (aQ X).cells).2 i c c h1 h1
theorem A0{mem:aN}{id len:Nat}{t:TypeId}{sz:Nat}{xs ys:List AV}(h1:lk mem id=some (.row t sz xs))(e:len=xs.length)(h:xs=ys)(h5:iV ys):Cv mem [] (.sl id 0 len) (.il sz ys):=by
 subst h e;exact .fz' (id:=id) h1 rfl om (by rw[Re];exact RJ om) h5
theorem FT{l:List Int}{n:Int}(h:∀w∈l,i64 w)(hn:i64 n):∀w∈l.set 0 n,i64 w:=fun w hw=>by
 rcases Se hw with hw|rfl
 ·exact h w hw
 ·exact hn
theorem Ks{vs:List aU}{v:aU}(h:(∀v∈vs,fY v/\aV v<=4294967296)/\∀v∈vs,aV v<=1048576)(hv:fY v/\aV v<=1048576):∀w∈vs++[v],fY w/\aV w<=1048576:=fun w hw=>by
 rcases Q9.1 hw with hw|hw
 ·exact⟨(h.1 w hw).1,h.2 w hw⟩
 ·simp at hw;rw[hw];exact hv
theorem g0(l:List Int)(h:¬l.length=0):([]++aW l)[0+Int.toNat 0]? = some (.int .i64 (l[0]'om)):=by
 rw[Rb,bK]
 show (l[0]?).map _=_
 rw[Qq om];rfl
theorem Ka{ls:List (List UInt8)}(h:∀s∈ls,s∈LB):∀s∈ls++[[120]],s∈LB:=fun s hs=>by
 rcases Q9.1 hs with hs|hs
 ·exact h s hs
 ·simp at hs;rw[hs];unfold LB;simp
theorem Gp(k n:Int)(hk:i64 k)(hn:i64 n):fY (.mk k n [] [])/\aV (.mk k n [] [])<=1048576:=⟨jP hk hn (by simp) (by simp) (by simp[wR]),by simp[aV,bT]⟩
theorem KH(A:List Nd)(at_ how n:Int)(hA:∀x∈A,Oe x)(hl:A.length<=14)(ha:i64 at_)(hh:i64 how)(hn:i64 n):aF prog [] 6 [.agg [.il 12 (aY A)],.int .i64 at_,.int .i64 how,.int .i64 n] [] 0 fun r m k=>∃ns:List Nd,(∀x∈ns,w6 LB x)/\ns.length<=14/\(ns=[]∨∃i x y,A[i]? = some x/\QS x y/\ns=A.set i y)/\r = .agg [.il 12 (aY ns)]/\m=[]/\k=0:=by
 have hS:∀x∈A,w6 LB x:=fun x hx=>ID HE (hA x hx)
 have hlb:∀s∈LB,s.length<=19:=fun s hs=>GW hs
 refine aO bD func6 rfl ?_;refine Rr ?_;rw[bF];refine aK (uY rfl om) ?_;refine Rr ?_;by_cases h0:A.length=0
 ·rw[show ((A.length:Int) == 0)=true by rw[h0];rfl];refine Rr ?_;exact dK (r':=.agg [.il 12 (aY [])]) (.agg' (.cons (.fz' (id:=3) (t:=59) (xs:=aY A) rfl rfl (by rw[bF];omega) (by rw[h0];rfl) .nil) .nil)) ⟨[],by simp,by simp,.inl rfl,rfl,rfl,rfl⟩
 ·rw[show ((A.length:Int) == 0)=false by simp;intro h;exact h0 (by rw[h];rfl)];have hAr:=vG at_ A.length ha om;obtain⟨b0,b1⟩:=gN (n:=at_) (most:=(A.length:Int)) om;have hHo:=vG how 10 hh om;obtain⟨c0,c1⟩:=gN (n:=how) (most:=10) om;generalize iN at_ A.length=i at hAr b0 b1;generalize iN how 10=c at hHo c0 c1;obtain⟨i,rfl⟩:=RB b0;have hil:i<A.length:=om;obtain⟨x,hx1,hx2,ex,bx⟩:=qW (l:=A) (k:=i) (n:=A.length) hil rfl;have hX:=hS x (RC hx1);have hG:=hA x (RC hx1);have hset:∀y:Nd,aY (A.set i y)=(aY A).set i (bL y):=fun y=>by unfold aY;rw[S6]
  have hfin:∀y:Nd,w6 LB y->∀(mem:aN) (nx:Nat) (e:AV),lk mem 3=some (.row 59 12 ((aY A).set (0+((i:Nat):Int).toNat) e))->E6 mem [] e (bL y)->QS x y ->
    nF 0 (fun r m k=>∃ns:List Nd,(∀x∈ns,w6 LB x)/\ns.length<=14/\(ns=[]∨∃i x y,A[i]? = some x/\QS x y/\ns=A.set i y)/\r = .agg [.il 12 (aY ns)]/\m=[]/\k=0) (.agg [.sl 3 0 A.length]) mem nx:=fun y hy mem nx e h3 he hk=>by
   refine dK (r':=.agg [.il 12 (aY (A.set i y))]) (.agg' (.cons (.fzR (id:=3) h3 rfl ?_ (by rw[bF];simp)) .nil)) ⟨A.set i y,N4 hS hy,by simpa using hl,.inr ⟨i,x,y,hx1,hk,rfl⟩,rfl,rfl,rfl⟩;rw[hset,show 0+((i:Nat):Int).toNat=i by simp];exact M0 (.same (aS _)) he
  obtain⟨kind,name,lo,hi',ws,lbs,vals,kids,⟨vk,vn,vs,vks⟩⟩:=x;clear hA hS ha hh;refine Rr ?_;refine hAr.go ?_;refine Rr ?_;repeat((first|refine aK bx ?_|refine aD ex ?_);refine Rr ?_)
  refine hHo.go ?_;have hw0:=hG.wlen;obtain⟨hw1,hw2⟩:=And.intro hG.vlen hG.klen;have hw3:=hG.llen;simp only at hw0 hw1 hw2 hw3;rcases(show c=0∨c=1∨c=2∨c=3∨c=4∨c=5∨c=6∨c=7∨c=8∨c=9 by omega) with rfl|rfl|rfl|rfl|rfl|rfl|rfl|rfl|rfl|rfl
  ·refine Rr ?_;repeat((first|refine aK bx ?_|refine aD ex ?_|refine bQ.2 ?_);refine Rr ?_)
   exact hfin ⟨n,name,lo,hi',ws,lbs,vals,kids,⟨vk,vn,vs,vks⟩⟩ (L9 hX hn) _ _ (bL ⟨n,name,lo,hi',ws,lbs,vals,kids,⟨vk,vn,vs,vks⟩⟩) rfl (.same (aQ _)) (by first|exact .inl ⟨rfl,by simp⟩|exact .inr ⟨rfl,rfl,rfl⟩)
  ·refine Rr ?_;repeat((first|refine aK bx ?_|refine aD ex ?_|refine bQ.2 ?_);refine Rr ?_)
   exact hfin ⟨kind,name,n,hi',ws,lbs,vals,kids,⟨vk,vn,vs,vks⟩⟩ (Po hX hn) _ _ (bL ⟨kind,name,n,hi',ws,lbs,vals,kids,⟨vk,vn,vs,vks⟩⟩) rfl (.same (aQ _)) (by first|exact .inl ⟨rfl,by simp⟩|exact .inr ⟨rfl,rfl,rfl⟩)
  ·refine Rr ?_;repeat((first|refine aK bx ?_|refine aD ex ?_|refine bQ.2 ?_);refine Rr ?_)
   exact hfin ⟨kind,name,lo,n,ws,lbs,vals,kids,⟨vk,vn,vs,vks⟩⟩ (PG hX hn) _ _ (bL ⟨kind,name,lo,n,ws,lbs,vals,kids,⟨vk,vn,vs,vks⟩⟩) rfl (.same (aQ _)) (by first|exact .inl ⟨rfl,by simp⟩|exact .inr ⟨rfl,rfl,rfl⟩)
  ·refine Rr ?_;repeat((first|refine aK bx ?_|refine aD ex ?_|refine bQ.2 ?_);refine Rr ?_)
   refine aK (bM rfl rfl rfl (by simp only[aC,RY,Rw];omega)) ?_;refine Rr ?_;refine aK (bM rfl rfl (by simp) (by simp[aC];omega)) ?_;refine Rr ?_;repeat((first|refine aK bx ?_|refine aD ex ?_|refine bQ.2 ?_);refine Rr ?_)
   refine hfin ⟨kind,name,lo,hi',ws++[n],lbs,vals,kids,⟨vk,vn,vs,vks⟩⟩ (BQ hX (by simp;omega) (Hv hX.ok.weightsI hn)) _ _ (.agg ((bL ⟨kind,name,lo,hi',ws,lbs,vals,kids,⟨vk,vn,vs,vks⟩⟩).cells.set 4 (.sl 8 0 _))) rfl (o6 4 (A0 (id:=8) (t:=3) (xs:=[]++aW ws++[.int .i64 n]) rfl (by simp) (by simp[aW]) (aT _))) (by first|exact .inl ⟨rfl,by simp⟩|exact .inr ⟨rfl,rfl,rfl⟩)
  ·refine Rr ?_;repeat((first|refine aK bx ?_|refine aD ex ?_|refine bQ.2 ?_);refine Rr ?_)
   refine aK (bM rfl rfl rfl (by simp only[aC,RY,Rw];omega)) ?_;refine Rr ?_;refine aK (bM rfl rfl (by simp) (by simp[aC];omega)) ?_;refine Rr ?_;repeat((first|refine aK bx ?_|refine aD ex ?_|refine bQ.2 ?_);refine Rr ?_)
   refine hfin ⟨kind,name,lo,hi',ws,lbs,vals,kids++[n],⟨vk,vn,vs,vks⟩⟩ (H3 hX (by simp;omega) (Hv hX.ok.kidsI hn)) _ _ (.agg ((bL ⟨kind,name,lo,hi',ws,lbs,vals,kids,⟨vk,vn,vs,vks⟩⟩).cells.set 7 (.sl 8 0 _))) rfl (o6 7 (A0 (id:=8) (t:=3) (xs:=[]++aW kids++[.int .i64 n]) rfl (by simp) (by simp[aW]) (aT _))) (by first|exact .inl ⟨rfl,by simp⟩|exact .inr ⟨rfl,rfl,rfl⟩)
  ·refine Rr ?_;obtain⟨d0,d1⟩:=gN (n:=n) (most:=6) om;have hNa:=vG n 6 hn om;generalize iN n 6=k at hNa d0 d1;refine hNa.go ?_;rcases(show k=0∨k=1∨k=2∨k=3∨k=4∨k=5 by omega) with rfl|rfl|rfl|rfl|rfl|rfl
   ·refine Rr ?_;repeat((first|refine aK bx ?_|refine aD ex ?_|refine bQ.2 ?_);refine Rr ?_)
    exact hfin ⟨kind,[],lo,hi',ws,lbs,vals,kids,⟨vk,vn,vs,vks⟩⟩ (sU hX (by simp)) _ _ (bL ⟨kind,[],lo,hi',ws,lbs,vals,kids,⟨vk,vn,vs,vks⟩⟩) rfl (.same (aQ _)) (by first|exact .inl ⟨rfl,by simp⟩|exact .inr ⟨rfl,rfl,rfl⟩)
   ·refine Rr ?_;repeat((first|refine aK bx ?_|refine aD ex ?_|refine bQ.2 ?_);refine Rr ?_)
    exact hfin ⟨kind,[80,97,105,114],lo,hi',ws,lbs,vals,kids,⟨vk,vn,vs,vks⟩⟩ (sU hX (by simp)) _ _ (bL ⟨kind,[80,97,105,114],lo,hi',ws,lbs,vals,kids,⟨vk,vn,vs,vks⟩⟩) rfl (.same (aQ _)) (by first|exact .inl ⟨rfl,by simp⟩|exact .inr ⟨rfl,rfl,rfl⟩)
   ·refine Rr ?_;repeat((first|refine aK bx ?_|refine aD ex ?_|refine bQ.2 ?_);refine Rr ?_)
    exact hfin ⟨kind,[112,97,105,114],lo,hi',ws,lbs,vals,kids,⟨vk,vn,vs,vks⟩⟩ (sU hX (by simp)) _ _ (bL ⟨kind,[112,97,105,114],lo,hi',ws,lbs,vals,kids,⟨vk,vn,vs,vks⟩⟩) rfl (.same (aQ _)) (by first|exact .inl ⟨rfl,by simp⟩|exact .inr ⟨rfl,rfl,rfl⟩)
   ·refine Rr ?_;repeat((first|refine aK bx ?_|refine aD ex ?_|refine bQ.2 ?_);refine Rr ?_)
    exact hfin ⟨kind,[65,98,95,49],lo,hi',ws,lbs,vals,kids,⟨vk,vn,vs,vks⟩⟩ (sU hX (by simp)) _ _ (bL ⟨kind,[65,98,95,49],lo,hi',ws,lbs,vals,kids,⟨vk,vn,vs,vks⟩⟩) rfl (.same (aQ _)) (by first|exact .inl ⟨rfl,by simp⟩|exact .inr ⟨rfl,rfl,rfl⟩)
   ·refine Rr ?_;repeat((first|refine aK bx ?_|refine aD ex ?_|refine bQ.2 ?_);refine Rr ?_)
    exact hfin ⟨kind,[76,111,110,103,76,111,110,103,76,111,110,103,76,111,110,103,76],lo,hi',ws,lbs,vals,kids,⟨vk,vn,vs,vks⟩⟩ (sU hX (by simp)) _ _ (bL ⟨kind,[76,111,110,103,76,111,110,103,76,111,110,103,76,111,110,103,76],lo,hi',ws,lbs,vals,kids,⟨vk,vn,vs,vks⟩⟩) rfl (.same (aQ _)) (by first|exact .inl ⟨rfl,by simp⟩|exact .inr ⟨rfl,rfl,rfl⟩)
   ·refine Rr ?_;repeat((first|refine aK bx ?_|refine aD ex ?_|refine bQ.2 ?_);refine Rr ?_)
    exact hfin ⟨kind,[65,45,98],lo,hi',ws,lbs,vals,kids,⟨vk,vn,vs,vks⟩⟩ (sU hX (by simp)) _ _ (bL ⟨kind,[65,45,98],lo,hi',ws,lbs,vals,kids,⟨vk,vn,vs,vks⟩⟩) rfl (.same (aQ _)) (by first|exact .inl ⟨rfl,by simp⟩|exact .inr ⟨rfl,rfl,rfl⟩)
  ·refine Rr ?_;repeat((first|refine aK bx ?_|refine aD ex ?_|refine bQ.2 ?_);refine Rr ?_)
   refine aK (bM rfl rfl rfl (by simp only[a8,RY,Rw];omega)) ?_;refine Rr ?_;refine aK (bM rfl rfl (by simp) (by simp[a8];omega)) ?_;refine Rr ?_;repeat((first|refine aK bx ?_|refine aD ex ?_|refine bQ.2 ?_);refine Rr ?_)
   refine hfin ⟨kind,name,lo,hi',ws,lbs++[[120]],vals,kids,⟨vk,vn,vs,vks⟩⟩ (Go.Ax.Id hX (by simp;omega) (Ka hX.lab) hlb) _ _ (.agg ((bL ⟨kind,name,lo,hi',ws,lbs,vals,kids,⟨vk,vn,vs,vks⟩⟩).cells.set 5 (.sl 8 0 _))) rfl (o6 5 (A0 (id:=8) (t:=9) (xs:=[]++Ae lbs++[.str [120]]) rfl (by simp) (by simp[Ae]) (y8 _))) (by first|exact .inl ⟨rfl,by simp⟩|exact .inr ⟨rfl,rfl,rfl⟩)
  ·refine Rr ?_;repeat((first|refine aK bx ?_|refine aD ex ?_|refine bQ.2 ?_);refine Rr ?_)
   refine aK (bM rfl rfl rfl (by simp only[aA,RY,Rw];omega)) ?_;refine Rr ?_;refine aK (bM rfl rfl (by simp) (by simp[aA];omega)) ?_;refine Rr ?_;repeat((first|refine aK bx ?_|refine aD ex ?_|refine bQ.2 ?_);refine Rr ?_)
   refine hfin ⟨kind,name,lo,hi',ws,lbs,vals++[.mk 0 n [] []],kids,⟨vk,vn,vs,vks⟩⟩ (Iy hX (by simp;omega) (Ks ⟨hX.ok.valuesI,hX.vals⟩ (Gp 0 n ⟨by decide,by decide⟩ hn))) _ _ (.agg ((bL ⟨kind,name,lo,hi',ws,lbs,vals,kids,⟨vk,vn,vs,vks⟩⟩).cells.set 6 (.sl 8 0 _))) rfl (o6 6 (.fzR (id:=8) (t:=57) (xs:=[]++aL vals++[.agg [.int .i64 0,.int .i64 n,.str [],.nsl]]) rfl rfl ?_ (by simp[aA]))) (by first|exact .inl ⟨rfl,by simp⟩|exact .inr ⟨rfl,rfl,rfl⟩)
   show r9 _ _ _ (aL (vals++[.mk 0 n [] []]))
   rw[fI];exact .snoc (by simp) (.same (aR _)) (Bx _ _ _)
  ·refine Rr ?_;obtain⟨d0,d1⟩:=gN (n:=n) (most:=5) om;have hNa:=vG n 5 hn om;generalize iN n 5=k at hNa d0 d1;refine hNa.go ?_;refine Rr ?_;repeat((first|refine aK bx ?_|refine aD ex ?_|refine bQ.2 ?_);refine Rr ?_)
   obtain⟨q1,q2⟩:=Gp k n (by constructor<;>omega) hn;exact hfin ⟨kind,name,lo,hi',ws,lbs,vals,kids,⟨k,n,[],[]⟩⟩ (Ld hX q1 q2) _ _ (.agg ((bL ⟨kind,name,lo,hi',ws,lbs,vals,kids,⟨k,n,[],[]⟩⟩).cells.set 11 .nsl)) rfl (o6 11 (.nil 4)) (by first|exact .inl ⟨rfl,by simp⟩|exact .inr ⟨rfl,rfl,rfl⟩)
  ·refine Rr ?_;by_cases hw:ws.length=0
   ·rw[show decide (((aW ws).length:Int)>0)=false by rw[aC,Ry];omega];refine Rr ?_;by_cases hk:kids.length=0
    ·rw[show decide (((aW kids).length:Int)>0)=false by rw[aC,Ry];omega];refine Rr ?_;repeat((first|refine aK bx ?_|refine aD ex ?_|refine bQ.2 ?_);refine Rr ?_)
     exact hfin ⟨kind,name,lo,hi',ws,lbs,vals,kids,⟨vk,vn,vs,vks⟩⟩ hX _ _ (bL ⟨kind,name,lo,hi',ws,lbs,vals,kids,⟨vk,vn,vs,vks⟩⟩) rfl (.same (aQ _)) (by first|exact .inl ⟨rfl,by simp⟩|exact .inr ⟨rfl,rfl,rfl⟩)
    ·rw[show decide (((aW kids).length:Int)>0)=true by rw[aC];simp;omega];refine Rr ?_;refine aK (bM rfl rfl rfl (by simp only[aC,RY,Rw];omega)) ?_;refine Rr ?_;refine aK (Qy (by simp[aC];omega)) ?_;refine Rr ?_;have hg:=g0 kids hk;generalize kids[0]'_=o at hg;refine aD hg ?_;refine Rr ?_;repeat((first|refine aK bx ?_|refine aD ex ?_|refine aD hg ?_|refine bQ.2 ?_);refine Rr ?_)
     refine hfin ⟨kind,name,lo,hi',ws,lbs,vals,kids.set 0 n,⟨vk,vn,vs,vks⟩⟩ (H3 hX (by simp;omega) (FT hX.ok.kidsI hn)) _ _ (.agg ((bL ⟨kind,name,lo,hi',ws,lbs,vals,kids,⟨vk,vn,vs,vks⟩⟩).cells.set 7 (.sl 6 0 _))) rfl (o6 7 (A0 (id:=6) (t:=3) (xs:=([]++aW kids).set (0+(0:Int).toNat) (.int .i64 n)) rfl (by simp) (by simp[aW]) (aT _))) (by first|exact .inl ⟨rfl,by simp⟩|exact .inr ⟨rfl,rfl,rfl⟩)
   ·rw[show decide (((aW ws).length:Int)>0)=true by rw[aC];simp;omega];refine Rr ?_;refine aK (bM rfl rfl rfl (by simp only[aC,RY,Rw];omega)) ?_;refine Rr ?_;refine aK (Qy (by simp[aC];omega)) ?_;refine Rr ?_;have hg:=g0 ws hw;generalize ws[0]'_=o at hg;refine aD hg ?_;refine Rr ?_;repeat((first|refine aK bx ?_|refine aD ex ?_|refine aD hg ?_|refine bQ.2 ?_);refine Rr ?_)
    refine hfin ⟨kind,name,lo,hi',ws.set 0 n,lbs,vals,kids,⟨vk,vn,vs,vks⟩⟩ (BQ hX (by simp;omega) (FT hX.ok.weightsI hn)) _ _ (.agg ((bL ⟨kind,name,lo,hi',ws,lbs,vals,kids,⟨vk,vn,vs,vks⟩⟩).cells.set 4 (.sl 6 0 _))) rfl (o6 4 (A0 (id:=6) (t:=3) (xs:=([]++aW ws).set (0+(0:Int).toNat) (.int .i64 n)) rfl (by simp) (by simp[aW]) (aT _))) (by first|exact .inl ⟨rfl,by simp⟩|exact .inr ⟨rfl,rfl,rfl⟩)
set_option maxRecDepth 1000000
set_option maxRecDepth 1000000
def gz:List (Nat × AV):=[(0,.agg [.int .u64 1,.int .u64 10,.int .u64 100,.int .u64 1000,.int .u64 10000,.int .u64 100000,.int .u64 1000000,.int .u64 10000000,.int .u64 100000000,.int .u64 1000000000,.int .u64 10000000000,.int .u64 100000000000,.int .u64 1000000000000,.int .u64 10000000000000,.int .u64 100000000000000,.int .u64 1000000000000000,.int .u64 10000000000000000,.int .u64 100000000000000000,.int .u64 1000000000000000000,.int .u64 10000000000000000000]),(2,.agg [.int .u8 0,.int .u8 1,.int .u8 28,.int .u8 2,.int .u8 29,.int .u8 14,.int .u8 24,.int .u8 3,.int .u8 30,.int .u8 22,.int .u8 20,.int .u8 15,.int .u8 25,.int .u8 17,.int .u8 4,.int .u8 8,.int .u8 31,.int .u8 27,.int .u8 13,.int .u8 23,.int .u8 21,.int .u8 19,.int .u8 16,.int .u8 7,.int .u8 26,.int .u8 12,.int .u8 18,.int .u8 6,.int .u8 11,.int .u8 5,.int .u8 10,.int .u8 9]),(3,.agg [.int .u8 0,.int .u8 1,.int .u8 56,.int .u8 2,.int .u8 57,.int .u8 49,.int .u8 28,.int .u8 3,.int .u8 61,.int .u8 58,.int .u8 42,.int .u8 50,.int .u8 38,.int .u8 29,.int .u8 17,.int .u8 4,.int .u8 62,.int .u8 47,.int .u8 59,.int .u8 36,.int .u8 45,.int .u8 43,.int .u8 51,.int .u8 22,.int .u8 53,.int .u8 39,.int .u8 33,.int .u8 30,.int .u8 24,.int .u8 18,.int .u8 12,.int .u8 5,.int .u8 63,.int .u8 55,.int .u8 48,.int .u8 27,.int .u8 60,.int .u8 41,.int .u8 37,.int .u8 16,.int .u8 46,.int .u8 35,.int .u8 44,.int .u8 21,.int .u8 52,.int .u8 32,.int .u8 23,.int .u8 11,.int .u8 54,.int .u8 26,.int .u8 40,.int .u8 15,.int .u8 34,.int .u8 20,.int .u8 31,.int .u8 10,.int .u8 25,.int .u8 14,.int .u8 19,.int .u8 9,.int .u8 13,.int .u8 8,.int .u8 7,.int .u8 6])]
end Go.Proofs.YtpajadlnaokngaaGreatDoor
namespace Go.Ax
open Go
inductive eZ where
 | ret
 | pan (x:Value)
 | recd (x:Value)
def eZ.mode:eZ->FrameMode
 | .ret=>.returning
 | .pan x=>.panicking [pe x]
 | .recd x=>.panicking [{ v:=x,recovered:=true }]
def JJ:List Value->Option (List AV)
 | []=>some []
 | .int k n::r=>match JJ r with
  | some l=>some (.int k n::l)
  | none=>none
 | .bool b::r=>match JJ r with
  | some l=>some (.bool b::l)
  | none=>none
 | _=>none
def QN:Value->Option AV
 | .iface t (.agg arr)=>match JJ arr.toList with
  | some l=>some (.ifc t (.agg l))
  | none=>none
 | _=>none
theorem BI{ρ:Nat->bY}{D:Nat->Prop}{O:Nat->Prop}{w:World}:∀{xs:List Value} {l:List AV},JJ xs=some l->GT ρ D O w l xs
 | [],l,h=>by simp only[JJ] at h;cases h;exact⟨.nil,by simp⟩
 | x::r,l,h=>by
  cases x<;>simp only[JJ] at h<;>first|(cases h;done)|skip
  all_goals
   split at h
   ·rename_i l' hl;cases h;obtain⟨h1,h2⟩:=BI (ρ:=ρ) (D:=D) (O:=O) (w:=w) hl;refine⟨.cons ?_ h1,fun y hy=>?_⟩
    ·first|exact .int _ _|exact .bool _
    ·rcases Qw.1 hy with rfl|hy
     ·rfl
     ·exact h2 y hy
   ·cases h
theorem I5{ρ:Nat->bY}{D:Nat->Prop}{O:Nat->Prop}{w:World}{x:Value}{v:AV}(h:QN x=some v):VR ρ D O w v x:=by
 unfold QN at h;split at h
 ·rename_i t arr;split at h
  ·rename_i l hl;cases h;obtain⟨h1,h2⟩:=BI (ρ:=ρ) (D:=D) (O:=O) (w:=w) hl;exact .ifc t _ _ (.agg l arr (by have:=h1.1;simpa using this) (fun y hy=>h2 y (by simpa using hy)) fun j c y hj hy=>h1.2 j c y hj (by simpa using hy))
  ·cases h
 ·cases h
structure oL(P:Program)(Γ:List (Nat × AV))(B:Nat)(c:Code)(s:St)(m:eZ)(Q:Exit->St->eZ->Prop):Prop where
 run:∀(X:Nat->Prop) (ds:List Deferred) (D:Nat->Prop) (ρ:Nat->bY) (a:Act) (w:World) (c₀:Frame) (cs:List Frame),(∀i,D i->i<B)->SR Γ X (ds,0) ρ (dn D B s.nx) s a w->B<=s.nx->c₀.mode=m.mode ->
  c.wpS P (fun e a' cs' w'=>∃(s':St) (m':eZ) (ρ':Nat->bY),Q e s' m'/\cs'={ c₀ with mode:=m'.mode }::cs/\B<=s'.nx/\SR Γ X (ds,0) ρ' (dn D B s'.nx) s' a' w'/\Ext D ρ s.mem w ρ' (dn D B s'.nx) s'.mem w') a (c₀::cs) w
section
variable {P:Program} {Γ:List (Nat × AV)} {B:Nat} {s:St} {m:eZ} {Q:Exit->St->eZ->Prop}
theorem nY{c₀:Frame}{u:FrameMode}(h:c₀.mode=u):{ c₀ with mode:=u }=c₀:=by subst h;rfl
theorem oL.of{c:Code}(hc:e8 c=false)(h:dO P Γ B c s fun e s'=>Q e s' m):oL P Γ B c s m Q:=by
 refine⟨fun X ds D ρ a w c₀ cs hD hs hB hm=>wpS_of_wp (Go.wp_mono (Ci.1 (h.run none X (ds,0) D ρ a w hD hs hB (.no hc))) ?_)⟩;rintro e a' w' ⟨s',ρ',hq,hB',hs',hext⟩;exact⟨s',m,ρ',hq,by rw[nY hm],hB',hs',hext⟩
def Pv(P:Program)(Γ:List (Nat × AV))(B:Nat)(y:Code)(Q:Exit->St->eZ->Prop)(e:Exit)(s:St)(m:eZ):Prop:=
 match e with
 | .normal=>oL P Γ B y s m Q
 | e=>Q e s m
theorem vT{c:Code}{Q Q':Exit->Act->List Frame->World->Prop}{a:Act}{cs:List Frame}{w:World}(h:c.wpS P Q a cs w)(hq:∀e a cs w,Q e a cs w->Q' e a cs w):c.wpS P Q' a cs w:=
 fun b k hb hr=>let ⟨e,a',cs',w',q,r⟩:=h b k hb hr;⟨e,a',cs',w',hq _ _ _ _ q,r⟩
theorem oL.seq{x y:Code}(h:oL P Γ B x s m (Pv P Γ B y Q)):oL P Γ B (.seq x y) s m Q:=by
 refine⟨fun X ds D ρ a w c₀ cs hD hs hB hm=>wpS_seq (vT (h.run X ds D ρ a w c₀ cs hD hs hB hm) ?_)⟩;rintro e a' cs' w' ⟨s',m',ρ',hq,rfl,hB',hs',hext⟩;cases e with
 | normal=>
  refine vT ((show oL P Γ B y s' m' Q from hq).run X ds D ρ' a' w' { c₀ with mode:=m'.mode } cs hD hs' hB' rfl) ?_;rintro e a2 cs2 w2 ⟨s2,m2,ρ2,h1,rfl,h2,h3,h4⟩;exact⟨s2,m2,ρ2,h1,rfl,h2,h3,hext.trans h4⟩
 | exit i=>exact⟨s',m',ρ',hq,rfl,hB',hs',hext⟩
 | goto l=>exact⟨s',m',ρ',hq,rfl,hB',hs',hext⟩
 | ret=>exact⟨s',m',ρ',hq,rfl,hB',hs',hext⟩
 | panic c=>exact⟨s',m',ρ',hq,rfl,hB',hs',hext⟩
 | outgrown=>exact⟨s',m',ρ',hq,rfl,hB',hs',hext⟩
theorem oL.cond{c:Operand}{x y:Code}{b:Bool}(hc:ev Γ s c=some (.bool b))(h:Jc b (oL P Γ B x s m Q) (oL P Γ B y s m Q)):oL P Γ B (.cond c x y) s m Q:=by
 refine⟨fun X ds D ρ a w c₀ cs hD hs hB hm=>?_⟩;have hv:=aP hs hc;generalize he:a.eval c=cv at hv;cases hv;cases b with
 | true=>exact wpS_cond he ((show oL P Γ B x s m Q from h).run X ds D ρ a w c₀ cs hD hs hB hm)
 | false=>exact wpS_cond he ((show oL P Γ B y s m Q from h).run X ds D ρ a w c₀ cs hD hs hB hm)
def Ly(op:Op):Bool:=
 match op with
 | .call c=>match c.callee with
  | .builtin .recover=>true
  | _=>false
 | _=>false
def O9:eZ->Option (AV × eZ)
 | .ret=>some (.nif,.ret)
 | .pan x=>match QN x with
  | some v=>some (v,.recd x)
  | none=>none
 | .recd x=>some (.nif,.recd x)
def AQ(P:Program)(Γ:List (Nat × AV))(ops:List Oper):List Oper->St->eZ->(St->eZ->Prop)->Prop
 | [],s,m,K=>K s m
 | o::r,s,m,K=>match i0 ops s o.guard with
  | none=>False
  | some false=>match dB s o.dst (.tup []) s.mem s.nx with
   | some s'=>AQ P Γ ops r s' m K
   | none=>False
  | some true=>match Ly o.op with
   | true=>match O9 m with
    | some (v,m')=>match dB s o.dst v s.mem s.nx with
     | some s'=>AQ P Γ ops r s' m' K
     | none=>False
    | none=>False
   | false=>match bU P Γ s o.op with
    | some (v,mem,nx)=>match dB s o.dst v mem nx with
     | some s'=>AQ P Γ ops r s' m K
     | none=>False
    | none=>False
theorem I1{o:Oper}(h:Ly o.op=true)(ρ:Operand->Value)(w:World):(execOp ρ o).run P w = .ok .recover w:=by
 unfold Ly at h;split at h
 ·rename_i c hop;split at h
  ·rename_i hc;simp[execOp,hop,resolve,hc,invoke,builtin]
  ·cases h
 ·cases h
theorem EH(ops:Array Oper):∀(l:List Nat) (s:St) (m:eZ) (K:St->eZ->Prop),AQ P Γ ops.toList (l.filterMap fun i=>ops[i]?) s m K ->
  ∀(X:Nat->Prop) (ds:List Deferred) (D:Nat->Prop) (ρ:Nat->bY) (a:Act) (w:World) (c₀:Frame) (cs:List Frame) (Q:Exit->Act->List Frame->World->Prop),(∀i,D i->i<B)->SR Γ X (ds,0) ρ (dn D B s.nx) s a w->B<=s.nx->c₀.mode=m.mode ->
   (∀(s':St) (m':eZ) (ρ':Nat->bY) (a':Act) (w':World),K s' m'->B<=s'.nx->SR Γ X (ds,0) ρ' (dn D B s'.nx) s' a' w'->Ext D ρ s.mem w ρ' (dn D B s'.nx) s'.mem w'->Q .normal a' ({ c₀ with mode:=m'.mode }::cs) w') ->
   wpOpsS P ops Q l a (c₀::cs) w:=by
 intro l
 induction l with
 | nil=>
  intro s m K h X ds D ρ a w c₀ cs Q hD hs hB hm hQ;have:=hQ s m ρ a w h hB hs (Ext.refl fun i hi=>.inl hi);rw[nY hm] at this;exact this
 | cons i r ih=>
  intro s m K h X ds D ρ a w c₀ cs Q hD hs hB hm hQ;simp only[wpOpsS];cases ho:ops[i]? with
  | none=>
   simp only[S5,ho] at h;exact ih s m K h X ds D ρ a w c₀ cs Q hD hs hB hm hQ
  | some o=>
   simp only[S5,ho] at h;simp only[AQ] at h;split at h
   ·exact h.elim
   ·rename_i hw;have hw':=eY hs hw;rw[SY] at hw';simp only[hw',R9,if_false];split at h
    ·rename_i s' hst;obtain⟨h1,h2,h3⟩:=eA hst hs hs.mr qD (fun h=>h) (fun _ _ h=>h);refine ih s' m K h X ds D ρ _ w c₀ cs Q hD (by rw[h3];exact h1) om hm fun s2 m2 ρ2 a2 w2 k1 k2 k3 k4=>hQ s2 m2 ρ2 a2 w2 k1 k2 k3 (by rw[←h2];exact k4)
    ·exact h.elim
   ·rename_i hw;have hw':=eY hs hw;rw[SY] at hw';simp only[hw',if_true];split at h
    ·rename_i hrec;rw[I1 hrec];split at h
     ·rename_i v m' hv;split at h
      ·rename_i s' hst;have main:∀(x:Value) (c1:Frame),(VR ρ (dn D B s.nx) (OX X ρ s.mem) w v x)->c1={ c₀ with mode:=m'.mode }->wpOpsS P ops Q r (a.put o.dst x) (c1::cs) w:=by
        intro x c1 hx hc1;obtain⟨h1,h2,h3⟩:=eA hst hs hs.mr hx (fun h=>h) (fun _ _ h=>h);subst hc1;exact ih s' m' K h X ds D ρ _ w { c₀ with mode:=m'.mode } cs Q hD (by rw[h3];exact h1) om rfl fun s2 m2 ρ2 a2 w2 k1 k2 k3 k4=>hQ s2 m2 ρ2 a2 w2 k1 k2 k3 (by rw[←h2];exact k4)
       cases m with
       | ret=>
        cases hv;simp only[recoverD,hm,eZ.mode];exact main _ c₀ .nif (nY hm).symm
       | pan x=>
        simp only[O9] at hv;split at hv
        ·rename_i u hu;cases hv;simp only[recoverD,hm,eZ.mode,pe];exact main _ _ (I5 hu) rfl
        ·cases hv
       | recd x=>
        cases hv;simp only[recoverD,hm,eZ.mode];exact main _ c₀ .nif (nY hm).symm
      ·exact h.elim
     ·exact h.elim
    ·split at h
     ·rename_i v mem nx hstep;split at h
      ·rename_i s' hst;have hnx:s.nx<=nx:=by rcases vU hstep with h'|h'<;>omega
       obtain⟨x,n,w',ρ',e1,e2,m1,v1,mono1,ext1⟩:=jO (P:=P) (D:=dn D B s.nx) (D':=dn D B nx) (fun h'=>SQ _ (qK hD hB _ h')) (rL hnx) hs o (fun e=>.inr ⟨hB,om⟩) hstep;obtain⟨h1,h2,h3⟩:=eA hst hs m1 v1 (ext1 _ fun i hi=>hi).mks mono1;have fin:wpOpsS P ops Q r (a.put o.dst x) (c₀::cs) w':=ih s' m K h X ds D ρ' _ w' c₀ cs Q hD (by rw[h3];exact h1) (by rw[h3];exact RZ hB hnx) hm fun s2 m2 ρ2 a2 w2 k1 k2 k3 k4=>hQ s2 m2 ρ2 a2 w2 k1 k2 k3 ((ext1 D fun i hi=>.inl hi).trans (by rw[←h2];exact k4))
       rw[e1];rcases e2 with rfl|⟨rfl,rfl⟩
       ·exact fin
       ·exact fin
      ·exact h.elim
     ·exact h.elim
theorem CJ(L:List Oper):∀(l:List Oper) (k:Nat),(∀j,L[k+j]? = l[j]?)->((List.range' k l.length).filterMap fun i=>L[i]?)=l
 | [],k,h=>rfl
 | o::r,k,h=>by
  have h0:L[k]? = some o:=by simpa using h 0
  rw[R0,List.range'_succ,S5,h0];simp only;rw[CJ L r (k+1) fun j=>by have:=h (j+1);simpa[Nat.add_assoc,Nat.add_comm 1 j] using this]
theorem oL.region{id:Nat}{ops:Array Oper}(h:AQ P Γ ops.toList ops.toList s m fun s' m'=>Q .normal s' m'):oL P Γ B (.region id ops false) s m Q:=by
 refine⟨fun X ds D ρ a w c₀ cs hD hs hB hm=>wpS_region ?_⟩;have e:((List.range ops.size).filterMap fun i=>ops[i]?)=ops.toList:=by
  have:=CJ ops.toList ops.toList 0 (fun j=>by rw[Rc]);rw[List.range_eq_range',←Array.length_toList];simpa using this
 exact EH ops (List.range ops.size) s m _ (by rw[e];exact h) X ds D ρ a w c₀ cs _ hD hs hB hm fun s' m' ρ' a' w' h1 h2 h3 h4=>⟨s',m',ρ',h1,rfl,h2,h3,h4⟩
def GN(P:Program)(Γ:List (Nat × AV))(H:Hk):Code->St->eZ->(St->eZ->Prop)->Prop
 | .skip,s,m,K=>K s m
 | .seq x y,s,m,K=>GN P Γ H x s m fun s' m'=>GN P Γ H y s' m' K
 | .cond c x y,s,m,K=>match ev Γ s c with
  | some (.bool b)=>match b with
   | true=>GN P Γ H x s m K
   | false=>GN P Γ H y s m K
  | _=>False
 | .region _ ops draw,s,m,K=>match draw with
  | false=>AQ P Γ ops.toList ops.toList s m K
  | true=>False
 | _,_,_,_=>False
theorem Fr{H:Hk}:∀(c:Code) (s:St) (m:eZ) (K:St->eZ->Prop),GN P Γ H c s m K->oL P Γ B c s m fun e s' m'=>match e with
  | .normal=>K s' m'
  | _=>False:=by
 intro c
 induction c with
 | skip=>exact fun s m K h=>.of rfl ⟨fun rd X ds D ρ a w hD hs hB _=>wpIn_skip ⟨s,ρ,h,hB,hs,Ext.refl fun i hi=>.inl hi⟩⟩
 | seq x y ihx ihy=>
  intro s m K h;refine oL.seq ?_;obtain⟨h'⟩:=ihx s m _ h;refine⟨fun X ds D ρ a w c₀ cs hD hs hB hm=>vT (h' X ds D ρ a w c₀ cs hD hs hB hm) ?_⟩;rintro e a' cs' w' ⟨s',m',ρ',hq,rest⟩;refine⟨s',m',ρ', ?_,rest⟩;cases e with
  | normal=>exact ihy s' m' K hq
  | _=>exact(show False from hq).elim
 | cond c x y ihx ihy=>
  intro s m K h;simp only[GN] at h;split at h
  ·rename_i b hc;refine oL.cond hc ?_;cases b with
   | true=>exact ihx s m K h
   | false=>exact ihy s m K h
  ·exact h.elim
 | region id ops draw=>
  intro s m K h;cases draw with
  | false=>exact oL.region h
  | true=>exact(show False from h).elim
 | _=>exact fun s m K h=>(show False from h).elim
def DfR(ρ:Nat->bY)(D:Nat->Prop)(O:Nat->Prop)(w:World)(v:AV)(d:Deferred):Prop:=
 ∃(F:FuncId) (first cap:List AV) (vs:List Value) (a2:Array Value),v = .fn (.func F) first cap/\d.target = .fn (.func F) a2/\d.args.toList++a2.toList=vs/\gT ρ D O w (first++cap) vs
def C4(P:Program)(Γ:List (Nat × AV))(H:Hk)(rs:List ResultVar)(v:AV)(s:St)(m:eZ)(Q:AV->aN->Nat->Prop)(Qp:Value->aN->Nat->Prop):Prop:=
 match v with
 | .fn (.func F) first cap=>match P.funcs[F]? with
  | some fn=>match fn.body with
   | some c=>match fn.name == "runtime.NumGoroutine" with
    | false=>match fn.results.toList with
     | []=>GN P Γ H c (enter fn.ntmps (first++cap) s.mem s.nx) m fun s' m'=>match m' with
      | .pan x=>Qp x s'.mem s'.nx
      | _=>match yA P rs { s with mem:=s'.mem,nx:=s'.nx } with
       | some r=>Q r s'.mem s'.nx
       | none=>False
     | _::_=>False
    | true=>False
   | none=>False
  | none=>False
 | _=>False
theorem uX{H:Hk}{X:Nat->Prop}{D:Nat->Prop}{ρ ρ0:Nat->bY}{a:Act}{w w0:World}{mem0:aN}{d:Deferred}{v:AV}{fn:Func}{Qr:AV->aN->Nat->Prop}{Qp:Value->aN->Nat->Prop}
  (hD:∀i,D i->i<B) (hs:SR Γ X ([d],0) ρ (dn D B s.nx) s a w) (hB:B<=s.nx) (hv:DfR ρ (dn D B s.nx) (OX X ρ s.mem) w v d) (hext:Ext D ρ0 mem0 w0 ρ (dn D B s.nx) s.mem w)
  (hm:m.mode≠.run) (h:C4 P Γ H fn.results.toList v s m Qr Qp) :
  Leaves P fn a.tmps (fun e w'=>∃(mem':aN) (nx':Nat) (ρ':Nat->bY),B<=nx'/\MR Γ X ρ' (dn D B nx') mem' w'/\Ext D ρ0 mem0 w0 ρ' (dn D B nx') mem' w' /\
   ((∃(r:AV) (v:Value),e = .returned v/\Qr r mem' nx'/\VR ρ' (dn D B nx') (OX X ρ' mem') w' r v)∨(∃x:Value,e = .panicked [pe x]/\Qp x mem' nx'))) [d] m.mode w:=by
 obtain⟨F,first,cap,vs,a2,rfl,ht,hvs,hvr⟩:=hv;simp only[C4] at h;split at h<;>first|exact h.elim|skip
 rename_i fd hf;split at h<;>first|exact h.elim|skip
 rename_i c hc;split at h<;>first|exact h.elim|skip
 rename_i hname;split at h<;>first|exact h.elim|skip
 rename_i hres;have hname':¬fd.name = "runtime.NumGoroutine" := by simpa using hname
 refine⟨hm,.func F,a2,F,vs.toArray,ht, ?_, ?_⟩
 ·rw[ht,←hvs];have e:(d.args.toList++a2.toList).toArray=d.args++a2:=by apply Sh;simp
  simp[invoke,callFunc,hf,hc,hname',e]
 ·refine callsD_of_wpS hf hc fun c₀ cs hc0=>?_
  have hwide:∀id,dn (dn D B s.nx) s.nx s.nx id->dn D B s.nx id:=pC hB (Q5 _);have hsr:=vZ (n:=fd.ntmps) (qK hD hB) hs.mr hvr (Sj _);refine vT ((Fr (B:=s.nx) (H:=H) c _ _ _ h).run X [] (dn D B s.nx) ρ _ w c₀ cs (qK hD hB) hsr (Q5 _) hc0) ?_;rintro e a' cs' w' ⟨s',m',ρ',hq,rfl,hB',hs',hext'⟩;cases e with
  | normal=>
   have hr0:(results fd a'.tmps).run P w' = .ok (.tuple #[]) w':=by
    have:=tW (P:=P) (w:=w') (fn:=fd) (tmps:=a'.tmps) (vs:=[]) (by rw[hres];simp);simpa using this
   have ext2:=hext.trans ((hext'.sub fun i hi=>.inl hi).wide (pC hB hB'));obtain⟨m2,mono2,_⟩:=hs'.mr.widen (pC hB hB');refine⟨hs'.def0.eq,m'.mode,rfl,.tuple #[],hr0, ?_⟩;have hs2:SR Γ X ([],0) ρ' (dn D B s'.nx) { s with mem:=s'.mem,nx:=s'.nx } { tmps:=a.tmps,defers:=[] } w':=
    ⟨m2,yT.start (ds:=([],0)) (Sj _),hs.size,fun i u hi=>mono2 _ _ (hext'.vr (hs.slot i u hi))⟩
   have ret:settle m'.mode = .returning->(match yA P fn.results.toList { s with mem:=s'.mem,nx:=s'.nx } with
       | some r=>Qr r s'.mem s'.nx
       | none=>False)->Leaves P fn a.tmps (fun e w'=>∃(mem':aN) (nx':Nat) (ρ':Nat->bY),B<=nx'/\MR Γ X ρ' (dn D B nx') mem' w'/\Ext D ρ0 mem0 w0 ρ' (dn D B nx') mem' w' /\
   ((∃(r:AV) (v:Value),e = .returned v/\Qr r mem' nx'/\VR ρ' (dn D B nx') (OX X ρ' mem') w' r v)∨(∃x:Value,e = .panicked [pe x]/\Qp x mem' nx'))) [] (settle m'.mode) w':=by
    intro hset hq;rw[hset];split at hq
    ·rename_i r hr;obtain⟨x,h1,h2⟩:=t9 hs2 hr;exact⟨x,h1,s'.mem,s'.nx,ρ',RZ hB hB',m2,ext2,.inl ⟨r,x,rfl,hq,h2⟩⟩
    ·exact hq.elim
   cases m' with
   | ret=>exact ret rfl hq
   | recd x=>exact ret rfl hq
   | pan x=>exact⟨s'.mem,s'.nx,ρ',RZ hB hB',m2,ext2,.inr ⟨x,rfl,hq⟩⟩
  | _=>exact(show False from hq).elim
end
structure w5(P:Program)(Γ:List (Nat × AV))(B:Nat)(c:Code)(s:St)(Q:Exit->St->Option AV->Prop):Prop where
 run:∀(X:Nat->Prop) (D:Nat->Prop) (ρ:Nat->bY) (a:Act) (w:World),(∀i,D i->i<B)->SR Γ X ([],0) ρ (dn D B s.nx) s a w->B<=s.nx ->
  c.wp P (fun e a' w'=>∃(s':St) (v:Option AV) (ds:List Deferred) (ρ':Nat->bY),Q e s' v/\B<=s'.nx/\SR Γ X (ds,0) ρ' (dn D B s'.nx) s' a' w'/\Ext D ρ s.mem w ρ' (dn D B s'.nx) s'.mem w' /\
   (match v with
    | none=>ds=[]
    | some v=>∃d,ds=[d]/\DfR ρ' (dn D B s'.nx) (OX X ρ' s'.mem) w' v d)) a w
section
variable {P:Program} {Γ:List (Nat × AV)} {B:Nat} {s:St} {Q:Exit->St->Option AV->Prop}
theorem SR.widen{X:Nat->Prop}{ds:List Deferred × Nat}{ρ:Nat->bY}{D D':Nat->Prop}{a:Act}{w:World}(hs:SR Γ X ds ρ D s a w)(hD:∀i,D i->D' i):SR Γ X ds ρ D' s a w:=by
 obtain⟨m,mono,_⟩:=hs.mr.widen hD;exact⟨m,hs.def0,hs.size,fun i v hi=>mono _ _ (hs.slot i v hi)⟩
theorem w5.of{c:Code}(hc:e8 c=false)(h:dO P Γ B c s fun e s'=>Q e s' none):w5 P Γ B c s Q:=by
 refine⟨fun X D ρ a w hD hs hB=>Go.wp_mono (Ci.1 (h.run none X ([],0) D ρ a w hD hs hB (.no hc))) ?_⟩;rintro e a' w' ⟨s',ρ',hq,hB',hs',hext⟩;exact⟨s',none,[],ρ',hq,hB',hs',hext,rfl⟩
theorem DfR.vr{X:Nat->Prop}{D D':Nat->Prop}{ρ ρ':Nat->bY}{mem mem':aN}{w w':World}{v:AV}{d:Deferred}(h:Ext D ρ mem w ρ' D' mem' w')(hv:DfR ρ D (OX X ρ mem) w v d):DfR ρ' D' (OX X ρ' mem') w' v d:=by
 obtain⟨F,first,cap,vs,a2,h1,h2,h3,h4⟩:=hv;exact⟨F,first,cap,vs,a2,h1,h2,h3,h4.1,fun j c x hc hx=>h.vr (h4.2 j c x hc hx)⟩
def O2(P:Program)(Γ:List (Nat × AV))(B:Nat)(y:Code)(Q:Exit->St->Option AV->Prop)(e:Exit)(s:St)(v:Option AV):Prop:=
 match e with
 | .normal=>match v with
  | none=>w5 P Γ B y s Q
  | some v=>e8 y=false/\dO P Γ s.nx y s fun e s'=>Q e s' (some v)
 | e=>Q e s v
theorem w5.seq{x y:Code}(h:w5 P Γ B x s (O2 P Γ B y Q)):w5 P Γ B (.seq x y) s Q:=by
 refine⟨fun X D ρ a w hD hs hB=>wp_seq (Go.wp_mono (h.run X D ρ a w hD hs hB) ?_)⟩;rintro e a' w' ⟨s',v,ds,ρ',hq,hB',hs',hext,hv⟩;cases e with
 | normal=>
  cases v with
  | none=>
   have hv:ds=[]:=hv;subst hv;refine Go.wp_mono ((show w5 P Γ B y s' Q from hq).run X D ρ' a' w' hD hs' hB') ?_;rintro e a2 w2 ⟨s2,v2,ds2,ρ2,h1,h2,h3,h4,h5⟩;exact⟨s2,v2,ds2,ρ2,h1,h2,h3,hext.trans h4,h5⟩
  | some v=>
   obtain⟨d,rfl,hd⟩:=hv;have key:=(show e8 y=false/\dO P Γ s'.nx y s' (fun e s'=>Q e s' (some v)) from hq)
   refine Go.wp_mono (Ci.1 (key.2.run none X ([d],0) (dn D B s'.nx) ρ' a' w' (qK hD hB') (hs'.widen fun i hi=>.inl hi) (Q5 _) (.no key.1))) ?_;rintro e a2 w2 ⟨s2,ρ2,h1,h2,h3,h4⟩;have hd2:=hd.vr h4;obtain⟨_,mono2,_⟩:=h3.mr.widen (pC hB' h2);obtain⟨F,first,cap,vs,a2,g1,g2,g3,g4⟩:=hd2;exact⟨s2,some v,[d],ρ2,h1,RZ hB' h2,h3.widen (pC hB' h2),hext.trans ((h4.sub fun i hi=>.inl hi).wide (pC hB' h2)),d,rfl,F,first,cap,vs,a2,g1,g2,g3,g4.1,fun j c x hc hx=>mono2 _ _ (g4.2 j c x hc hx)⟩
 | exit i=>exact⟨s',v,ds,ρ',hq,hB',hs',hext,hv⟩
 | goto l=>exact⟨s',v,ds,ρ',hq,hB',hs',hext,hv⟩
 | ret=>exact⟨s',v,ds,ρ',hq,hB',hs',hext,hv⟩
 | panic c=>exact⟨s',v,ds,ρ',hq,hB',hs',hext,hv⟩
 | outgrown=>exact⟨s',v,ds,ρ',hq,hB',hs',hext,hv⟩
def Ei(P:Program)(Γ:List (Nat × AV))(ops:List Oper):List Oper->St->(St->AV->Prop)->Prop
 | [],_,_=>False
 | o::r,s,K=>match i0 ops s o.guard with
  | some true=>match o.op with
   | .defer c=>match r with
    | []=>match c.args.toList with
     | []=>match c.callee with
      | .value f=>match ev Γ s f with
       | some (.fn (.func F) first cap)=>match dB s o.dst (.tup []) s.mem s.nx with
        | some s'=>K s' (.fn (.func F) first cap)
        | none=>False
       | _=>False
      | _=>False
     | _::_=>False
    | _::_=>False
   | op=>match bU P Γ s op with
    | some (v,mem,nx)=>match dB s o.dst v mem nx with
     | some s'=>Ei P Γ ops r s' K
     | none=>False
    | none=>False
  | _=>False
theorem xM(ops:List Oper):∀(l:List Oper) (s:St) (K:St->AV->Prop),Ei P Γ ops l s K ->
  ∀(X:Nat->Prop) (D:Nat->Prop) (ρ:Nat->bY) (a:Act) (w:World) (Q:Exit->Act->World->Prop),(∀i,D i->i<B)->SR Γ X ([],0) ρ (dn D B s.nx) s a w->B<=s.nx ->
   (∀(s':St) (v:AV) (d:Deferred) (ρ':Nat->bY) (a':Act) (w':World),K s' v->B<=s'.nx->SR Γ X ([d],0) ρ' (dn D B s'.nx) s' a' w'->Ext D ρ s.mem w ρ' (dn D B s'.nx) s'.mem w'->DfR ρ' (dn D B s'.nx) (OX X ρ' s'.mem) w' v d->Q .normal a' w')->wpList P ops.toArray Q l a w
 | [],s,K,h,X,D,ρ,a,w,Q,hD,hs,hB,hQ=>h.elim
 | o::r,s,K,h,X,D,ρ,a,w,Q,hD,hs,hB,hQ=>by
  simp only[Ei] at h;refine wpList_step fun K' hK'=>?_
  split at h<;>first|exact h.elim|skip
  rename_i hw;rw[eY hs hw];simp only[if_true];split at h
  ·rename_i c hop;split at h<;>first|exact h.elim|skip
   split at h<;>first|exact h.elim|skip
   rename_i hargs;split at h<;>first|exact h.elim|skip
   rename_i f hc;split at h<;>first|exact h.elim|skip
   rename_i F first cap hf
   split at h<;>first|exact h.elim|skip
   rename_i s' hst;have hv:=aP hs hf;generalize he:a.eval f=fv at hv;cases hv with
   | fn _ _ _ a1 a2 l1 l2 r1 r2=>
    have hargs':c.args = #[]:=by apply Sh;simpa using hargs
    have e1:(execOp a.eval o).run P w = .ok (.defer { target:=.fn (.func F) a2,args:=a1 }) w:=by
     simp[execOp,hop,resolve,hc,he,Deferred.ofValue,hargs']
    unfold Oper.wp;rw[e1];have hs':SR Γ X ([{ target:=.fn (.func F) a2,args:=a1 }],0) ρ (dn D B s.nx) s { a with defers:={ target:=.fn (.func F) a2,args:=a1 }::a.defers } w:=
     ⟨hs.mr,by rw[hs.def0.eq];exact yT.start (ds:=([_],0)) (Sj _),hs.size,hs.slot⟩
    obtain⟨h1,h2,h3⟩:=eA hst hs' hs'.mr qD (fun h=>h) (fun _ _ h=>h);refine hK' _ _ (wpList_nil (hQ s' _ _ ρ _ w h (by rw[h3];exact hB) (by rw[h3];exact h1) (by rw[h2,h3];exact Ext.refl fun i hi=>.inl hi) ?_));refine⟨F,first,cap,a1.toList++a2.toList,a2,rfl,rfl,rfl, ?_⟩;rw[h2,h3];exact gT.append ⟨by simpa using l1,fun j c x h1 h2=>r1 j c x h1 (by simpa using h2)⟩ ⟨by simpa using l2,fun j c x h1 h2=>r2 j c x h1 (by simpa using h2)⟩
  ·rename_i hnd;split at h<;>first|exact h.elim|skip
   rename_i v mem nx hstep;split at h<;>first|exact h.elim|skip
   rename_i s' hst;have hnx:s.nx<=nx:=by rcases vU hstep with h'|h'<;>omega
   obtain⟨x,n,w',ρ',e1,e2,m1,v1,mono1,ext1⟩:=jO (P:=P) (D:=dn D B s.nx) (D':=dn D B nx) (fun h'=>SQ _ (qK hD hB _ h')) (rL hnx) hs o (fun e=>.inr ⟨hB,om⟩) hstep;obtain⟨h1,h2,h3⟩:=eA hst hs m1 v1 (ext1 _ fun i hi=>hi).mks mono1;have fin:K' (a.put o.dst x) w':=hK' _ _ (xM ops r s' K h X D ρ' _ w' Q hD (by rw[h3];exact h1) (by rw[h3];exact RZ hB hnx) fun s2 v2 d2 ρ2 a2 w2 k1 k2 k3 k4 k5=>hQ s2 v2 d2 ρ2 a2 w2 k1 k2 k3 ((ext1 D fun i hi=>.inl hi).trans (by rw[←h2];exact k4)) k5);unfold Oper.wp;rw[e1];rcases e2 with rfl|⟨rfl,rfl⟩
   ·exact fin
   ·exact fin
theorem w5.region{id:Nat}{ops:Array Oper}(h:Ei P Γ ops.toList ops.toList s fun s' v=>Q .normal s' (some v)):w5 P Γ B (.region id ops false) s Q:=by
 refine⟨fun X D ρ a w hD hs hB=>wp_region_list ?_⟩;have:=xM ops.toList ops.toList s _ h X D ρ a w (fun e a' w'=>∃(s':St) (v:Option AV) (ds:List Deferred) (ρ':Nat->bY),Q e s' v/\B<=s'.nx/\SR Γ X (ds,0) ρ' (dn D B s'.nx) s' a' w'/\Ext D ρ s.mem w ρ' (dn D B s'.nx) s'.mem w' /\
   (match v with
    | none=>ds=[]
    | some v=>∃d,ds=[d]/\DfR ρ' (dn D B s'.nx) (OX X ρ' s'.mem) w' v d)) hD hs hB
  (fun s' v d ρ' a' w' h1 h2 h3 h4 h5=>⟨s',some v,[d],ρ',h1,h2,h3,h4,d,rfl,h5⟩)
 simpa using this
def NJ(P:Program)(Γ:List (Nat × AV))(H:Hk)(rs:List ResultVar)(Q:AV->aN->Nat->Prop)(Qp:Value->aN->Nat->Prop)(s:St)(v:Option AV):Prop:=
 match v with
 | none=>match yA P rs s with
  | some r=>Q r s.mem s.nx
  | none=>False
 | some v=>C4 P Γ H rs v s .ret Q Qp
def QG(P:Program)(Γ:List (Nat × AV))(H:Hk)(rs:List ResultVar)(Q:AV->aN->Nat->Prop)(Qp:Value->aN->Nat->Prop)(x:Value)(s:St)(v:Option AV):Prop:=
 match v with
 | none=>Qp x s.mem s.nx
 | some v=>C4 P Γ H rs v s (.pan x) Q Qp
def J6(P:Program)(Γ:List (Nat × AV))(H:Hk)(rs:List ResultVar)(Q:AV->aN->Nat->Prop)(Qp:Value->aN->Nat->Prop):Exit->St->Option AV->Prop:=fun e s v=>
 match e with
 | .normal=>NJ P Γ H rs Q Qp s v
 | .ret=>NJ P Γ H rs Q Qp s v
 | .panic [⟨x,false,false⟩]=>QG P Γ H rs Q Qp x s v
 | _=>False
theorem yF{H:Hk}{F:FuncId}{fn:Func}{c:Code}{args:List AV}{mem:aN}{nx:Nat}{Q:AV->aN->Nat->Prop}{Qp:Value->aN->Nat->Prop}(hf:P.funcs[F]? = some fn)(hb:fn.body=some c)
  (h:w5 P Γ nx c (enter fn.ntmps args mem nx) (J6 P Γ H fn.results.toList Q Qp)) (hF:Nat.beq F YF=false:=by rfl):dI P Γ F args mem nx Q Qp:=by
 refine⟨fun X D ρ w vs hD hm hv=>.of hF (calls_of_wp_defers hf hb ?_)⟩;refine Go.wp_mono (h.run X D ρ _ w hD (vZ hD hm hv (Sj _)) (Q5 _)) ?_;rintro e a' w' ⟨s',v,ds,ρ',hq,hB',hs',hext,hv⟩;have ret:NJ P Γ H fn.results.toList Q Qp s' v->Leaves P fn a'.tmps (fun e w'=>∃(mem':aN) (nx':Nat) (ρ':Nat->bY),nx<=nx'/\MR Γ X ρ' (dn D nx nx') mem' w'/\Ext D ρ mem w ρ' (dn D nx nx') mem' w' /\
   ((∃(r:AV) (v:Value),e = .returned v/\Q r mem' nx'/\VR ρ' (dn D nx nx') (OX X ρ' mem') w' r v)∨(∃x:Value,e = .panicked [pe x]/\Qp x mem' nx'))) a'.defers .returning w':=by
  intro hq;cases v with
  | none=>
   have hv:ds=[]:=hv;subst hv;rw[hs'.def0.eq];simp only[NJ] at hq;split at hq
   ·rename_i r hr;obtain⟨x,h1,h2⟩:=t9 hs' hr;exact⟨x,h1,s'.mem,s'.nx,ρ',hB',hs'.mr,hext,.inl ⟨r,x,rfl,hq,h2⟩⟩
   ·exact hq.elim
  | some v=>
   obtain⟨d,rfl,hd⟩:=hv;rw[hs'.def0.eq];exact uX (B:=nx) (m:=.ret) hD hs' hB' hd hext (by simp[eZ.mode]) hq
 cases e with
 | normal=>exact ret hq
 | ret=>exact ret hq
 | panic ch=>
  unfold J6 at hq;split at hq
  ·rename_i e;cases e
  ·rename_i e;cases e
  ·rename_i x e;cases e
   show Leaves P fn a'.tmps _ a'.defers (.panicking [pe x]) w'
   cases v with
   | none=>
    have hv:ds=[]:=hv;subst hv;rw[hs'.def0.eq];exact⟨s'.mem,s'.nx,ρ',hB',hs'.mr,hext,.inr ⟨x,rfl,hq⟩⟩
   | some v=>
    obtain⟨d,rfl,hd⟩:=hv;rw[hs'.def0.eq];exact uX (B:=nx) (m:=.pan x) hD hs' hB' hd hext (by simp[eZ.mode]) hq
  ·exact hq.elim
 | _=>exact(show False from hq).elim
end
end Go.Ax
namespace Go.Ax
open Go
def I6(F:Nat):List Nat->Bool
 | []=>false
 | G::r=>match Nat.beq G F with
  | true=>true
  | false=>I6 F r
def NR:List Oper->Bool
 | []=>false
 | o::r=>match o.op with
  | .defer _=>true
  | _=>NR r
def Fi(cl:Bool)(P:Program)(Γ:List (Nat × AV))(H:Hk):Code->St->(Exit->St->Option AV->Prop)->Prop
 | .seq x y,s,Q=>Fi cl P Γ H x s fun e s' v=>match e with
  | .normal=>match v with
   | none=>Fi cl P Γ H y s' Q
   | some v=>match e8 y with
    | false=>uU cl P Γ H y s' fun e s''=>Q e s'' (some v)
    | true=>False
  | e=>Q e s' v
 | .region id ops draw,s,Q=>match NR ops.toList with
  | true=>match draw with
   | false=>Ei P Γ ops.toList ops.toList s fun s' v=>Q .normal s' (some v)
   | true=>False
  | false=>uU cl P Γ H (.region id ops draw) s fun e s'=>Q e s' none
 | c,s,Q=>match e8 c with
  | false=>uU cl P Γ H c s fun e s'=>Q e s' none
  | true=>False
theorem Fy{cl:Bool}{P:Program}{Γ:List (Nat × AV)}{H:Hk}(hH:∀B,uS P Γ B H)(B:Nat):∀(c:Code) (s:St) (Q:Exit->St->Option AV->Prop),Fi cl P Γ H c s Q->w5 P Γ B c s Q:=by
 intro c
 induction c with
 | seq x y ihx ihy=>
  intro s Q h;simp only[Fi] at h;refine w5.seq ?_;obtain⟨h'⟩:=ihx s _ h;refine⟨fun X D ρ a w hD hs hB=>Go.wp_mono (h' X D ρ a w hD hs hB) ?_⟩;rintro e a' w' ⟨s',v,ds,ρ',hq,rest⟩;refine⟨s',v,ds,ρ', ?_,rest⟩;cases e with
  | normal=>
   cases v with
   | none=>exact ihy s' Q hq
   | some v=>
    simp only at hq;split at hq
    ·rename_i hr;exact⟨hr,cT (hH s'.nx) y s' _ hq⟩
    ·exact hq.elim
  | exit i=>exact hq
  | goto l=>exact hq
  | ret=>exact hq
  | panic c=>exact hq
  | outgrown=>exact hq
 | region id ops draw=>
  intro s Q h;simp only[Fi] at h;split at h
  ·split at h
   ·exact w5.region h
   ·exact h.elim
  ·exact .of rfl (cT (hH B) _ _ _ h)
 | _=>
  intro s Q h;simp only[Fi] at h;split at h
  ·rename_i hr;exact .of hr (cT (hH B) _ _ _ h)
  ·exact h.elim
def GD(P:Program)(Γ:List (Nat × AV))(H:Hk)(args:List AV)(mem:aN)(nx:Nat)(K:AV->aN->Nat->Prop):Prop:=
 match args with
 | .yld id::rest=>opt (lk mem id) fun b=>match b with
  | .loop sl nt ps ca cb st pd=>match e8 ca with
   | false=>match e8 cb with
    | false=>opt (xU nt ps.toList rest sl) fun sl'=>uU true P Γ H ca ⟨sl',mem,nx,nt⟩ fun e s1=>match e with
     | .normal=>C2 s1 fun sl1 m1 n1 t1=>opt (lk m1 id) fun b1=>match b1 with
      | .loop sl nt ps ca cb' .ready pd=>ET m1 id (.loop sl nt ps ca cb' .busy pd) fun m2=>uU true P Γ H cb ⟨sl1,m2,n1,t1⟩ fun e s3=>C2 s3 fun _ m3 n3 _=>opt (lk m3 id) fun b3=>match b3 with
       | .loop sl nt ps ca cb _ _=>match e with
        | .normal=>ET m3 id (.loop sl nt ps ca cb .ready none) fun m=>K (.bool true) m n3
        | .ret=>ET m3 id (.loop sl nt ps ca cb .done (some .ret)) fun m=>K (.bool false) m n3
        | .exit i=>ET m3 id (.loop sl nt ps ca cb .done (some (.exit i))) fun m=>K (.bool false) m n3
        | _=>False
       | _=>False
      | _=>False
     | _=>False
    | true=>False
   | true=>False
  | _=>False
 | _=>False
theorem Cz{P:Program}{Γ:List (Nat × AV)}{H:Hk}(hH:∀B,uS P Γ B H){args:List AV}{mem:aN}{nx:Nat}{K:AV->aN->Nat->Prop}{Kp:Value->aN->Nat->Prop}(h:GD P Γ H args mem nx K):dI P Γ YF args mem nx K Kp:=by
 unfold GD at h;split at h<;>first|exact h.elim|skip
 obtain⟨b,h1,h⟩:=bG.1 h;split at h<;>first|exact h.elim|skip
 split at h<;>first|exact h.elim|skip
 rename_i ha;split at h<;>first|exact h.elim|skip
 rename_i hb;obtain⟨sl',h2,h⟩:=bG.1 h;refine dI.round h1 h2 ha hb ((cT (hH nx) _ _ _ h).mono fun e s1 h=>?_);unfold OV;split at h<;>first|exact h.elim|skip
 obtain⟨b1,h3,h⟩:=bG.1 (kA.1 h);simp only[h3];split at h<;>first|exact h.elim|skip
 refine(cT (hH nx) _ _ _ (iP.1 h)).mono fun e s3 h=>?_
 unfold OK;obtain⟨b3,h4,h⟩:=bG.1 (kA.1 h);simp only[h4];split at h<;>first|exact h.elim|skip
 split at h
 ·exact iP.1 h
 ·exact iP.1 h
 ·exact iP.1 h
 ·exact h.elim
end Go.Ax
namespace Go.Ax
open Go
section
variable {P:Program} {Γ:List (Nat × AV)} {B:Nat}
structure Qc(P:Program)(Γ:List (Nat × AV))(B:Nat)(ops l:List Oper)(s:St)(K:St->Prop)(Kp:Value->St->Prop):Prop where
 run:uH P Γ (If P Γ B) ops l s K Kp
structure Qn(P:Program)(Γ:List (Nat × AV))(B:Nat)(ops:List Oper)(tr:List (List Nat))(base:Nat)(K:St->Prop)(Kp:Value->aN->Nat->Prop)(l:List Nat)(recs:List zF)(s:St):Prop where
 run:mR P Γ (If P Γ B) ops tr base K Kp l recs s
end
end Go.Ax
namespace Go.Ax
open Go
theorem a7.frz{P:Program}{Γ:List (Nat × AV)}{F:FuncId}{args asz:List AV}{r:AV}{mem:aN}{nx:Nat}{K:AV->aN->Nat->Prop}(h:a7 P Γ F asz r)(ids:List Nat)(hΓ:∀p∈Γ,NN p.2)(hargs:lL (mS ids mem) [] args asz)(hr:NN r)(hk:K r (jM ids mem) nx) :
  aF P Γ F args mem nx K:=by
 refine⟨fun X D ρ w vs hD hm hv=>?_⟩;refine(aF.use (K:=K) (nx:=nx) hΓ h [] (m1:=mS ids mem) (rest:=jM ids mem) ⟨fun p hp'=>(dE.1 hp').1,fun p hp'=>(cM.1 hp').1,fun p hp'=>?_,fun p h1 q h2=>?_, ?_⟩ ?_ hargs (fun p hp=>by cases hp) (by simp) (fun i j k h=>by simp[lk] at h) (fun id i hl=>by simp[lk] at hl) ?_).run X D ρ w vs hD hm hv
 ·cases hi:BZ p.1 ids with
  | true=>left;exact dE.2 ⟨hp',hi⟩
  | false=>right;exact cM.2 ⟨hp',hi⟩
 ·have a:=(dE.1 h1).2;have b:=(cM.1 h2).2;intro e;rw[e,b] at a;cases a
 ·exact hm.nod.sublist ((kO mem).map _)
 ·exact hm.nod.sublist ((kJ mem).map _)
 ·rintro r' m n ⟨rfl,rfl,rfl⟩ _;exact⟨[],r',[],nx,Q5 _,.same r' hr,(fun p hp=>by cases hp),by simp,(fun i j k h=>by simp[lk] at h),(fun i id hl=>by simp[lk] at hl),(fun p hp=>by cases hp),hk⟩
end Go.Ax
