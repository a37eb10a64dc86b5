/- A part of the proof. -/
import Derived.Test.YtidjhgajglebnaaGreatDoorAx24
import Derived.Test.YtidjhgajglebnaaGreatDoorProg
set_option linter.unusedVariables false
set_option linter.unusedSimpArgs false
namespace Go.Proofs.YtidjhgajglebnaaGreatDoor
open Go Go.Ax Go.Proofs Tryz
set_option maxRecDepth 100000
set_option maxHeartbeats 16000000
def l8:List (List UInt8):=[[45,49],[48],[50],[48,50],[45,48],[97],[57,50,50,51,51,55,50,48,51,54,56,53,52,55,55,53,56,48,56],[]]
def LB:List (List UInt8):=[120]::(l8++zQ)
theorem Kz{s:List UInt8}(h:s∈LB):s.length<=19:=by
 simp only[LB,l8,zQ,Zi,ZS,Yr,List.not_mem_nil,or_false] at h;rcases h with rfl|rfl|rfl|rfl|rfl|rfl|rfl|rfl|rfl|rfl|rfl|rfl|rfl<;>simp
set_option maxHeartbeats 16000000
theorem Mf:∀s∈zQ,s∈LB:=fun s hs=>by unfold LB;exact Yx _ (Zz _ hs)
theorem WS(l:List Int)(hl:∀x∈l,i64 x){Γ:List (Nat × AV)}{mem:aQ}{nx:Nat}{K:AV->aQ->Nat->Prop}(hk:∀ns:List Nd,lZ ns->ns.length<=14->K (.agg [.il 12 (bG ns)]) mem nx):aF prog Γ 6 [.il 1 (bH l)] mem nx K:=by
 refine aF.goG0 (V9 l hl) ?_;rintro r m n ⟨ns,hT,hlen,rfl,rfl,rfl⟩;exact⟨.agg [.il 12 (bG ns)],.agg' (.cons (.fz' (id:=0) rfl rfl (by rw[cG];omega) (by rw[ZI];exact Yu (by rw[cG];omega)) (aP _)) .nil),hk ns hT hlen⟩
theorem TT{mem:aQ}{σ:List (Nat × Nat)}{xs ys:List AV}{i:Nat}{x y:AV}(hs:tL mem σ xs ys)(h:C7 mem σ x y):tL mem σ (xs.set i x) (ys.set i y):=by
 refine⟨by simp;exact hs.1,fun j a b ha hb=>?_⟩;rw[aAq] at ha hb;split at ha
 ·rename_i e;rw[Yt e] at hb;split at ha
  ·split at hb
   ·cases ha;cases hb;exact h
   ·cases hb
  ·cases ha
 ·rename_i e;rw[Yo e] at hb;exact hs.2 j a b ha hb
theorem tG{mem:aQ}{X:Nd}{a b:AV}(j:Nat)(h:Cv mem [] a b):C7 mem [] (.agg ((cD X).cells.set j a)) (.agg ((cD X).cells.set j b)):=by
 refine C7.agg ⟨by simp,fun i c c' h1 h2=>?_⟩;rw[aAq] at h1 h2;split at h1
 ·rename_i e;rw[Yt e] at h2;split at h1
  ·rename_i e2;rw[Yt e2] at h2;cases h1;cases h2;exact h
  ·cases h1
 ·rename_i e;rw[Yo e] at h2;rw[h1] at h2;cases h2;exact(iB.same (aV X).cells).2 i c c h1 h1
theorem Dh{mem:aQ}{id len:Nat}{t:TypeId}{sz:Nat}{xs ys:List AV}(h1:lk mem id=some (.row t sz xs))(e:len=xs.length)(h:xs=ys)(h5:kI ys):Cv mem [] (.sl id 0 len) (.il sz ys):=by
 subst h e;exact .fz' (id:=id) h1 rfl (by omega) (by rw[ZI];exact Yu (by omega)) h5
theorem IA{l:List Int}{n:Int}(h:∀w∈l,i64 w)(hn:i64 n):∀w∈l.set 0 n,i64 w:=fun w hw=>by
 rcases aAP hw with hw|rfl
 ·exact h w hw
 ·exact hn
theorem Oo{vs:List aR}{v:aR}(h:(∀v∈vs,g9 v/\bB v<=4294967296)/\∀v∈vs,bB v<=1048576)(hv:g9 v/\bB v<=1048576):∀w∈vs++[v],g9 w/\bB w<=1048576:=fun w hw=>by
 rcases Yz.1 hw with hw|hw
 ·exact⟨(h.1 w hw).1,h.2 w hw⟩
 ·simp at hw;rw[hw];exact hv
theorem g0(l:List Int)(h:¬l.length=0):([]++bH l)[0+Int.toNat 0]? = some (.int .i64 (l[0]'(by omega))):=by
 rw[ZS,bU]
 show (l[0]?).map _=_
 rw[Yj (by omega)];rfl
theorem Qk{ls:List (List UInt8)}(h:∀s∈ls,s∈LB):∀s∈ls++[[120]],s∈LB:=fun s hs=>by
 rcases Yz.1 hs with hs|hs
 ·exact h s hs
 ·simp at hs;rw[hs];unfold LB;simp
theorem L5(k n:Int)(hk:i64 k)(hn:i64 n):g9 (.mk k n [] [])/\bB (.mk k n [] [])<=1048576:=⟨kS hk hn (by simp) (by simp) (by simp[rE]),by simp[bB,bZ]⟩
theorem RE(A:List Nd)(at_ how n:Int)(hA:∀x∈A,VQ x)(hl:A.length<=14)(ha:i64 at_)(hh:i64 how)(hn:i64 n):aF prog [] 7 [.agg [.il 12 (bG A)],.int .i64 at_,.int .i64 how,.int .i64 n] [] 0 fun r m k=>∃ns:List Nd,(∀x∈ns,Br LB x)/\ns.length<=14/\(ns=[]∨∃i x y,A[i]? = some x/\Xh x y/\ns=A.set i y)/\r = .agg [.il 12 (bG ns)]/\m=[]/\k=0:=by
 have hS:∀x∈A,Br LB x:=fun x hx=>Lp Mf (hA x hx)
 have hlb:∀s∈LB,s.length<=19:=fun s hs=>Kz hs
 refine aD bD func7 rfl ?_;refine Rr ?_;rw[cG];refine aM (Ad rfl (by omega)) ?_;refine Rr ?_;by_cases h0:A.length=0
 ·rw[show ((A.length:Int) == 0)=true by rw[h0];rfl];refine Rr ?_;exact fL (r':=.agg [.il 12 (bG [])]) (.agg' (.cons (.fz' (id:=3) (t:=57) (xs:=bG A) rfl rfl (by rw[cG];omega) (by rw[h0];rfl) .nil) .nil)) ⟨[],by simp,by simp,.inl rfl,rfl,rfl,rfl⟩
 ·rw[show ((A.length:Int) == 0)=false by simp;intro h;exact h0 (by rw[h];rfl)];have hAr:=AQ at_ A.length ha (by omega);obtain⟨b0,b1⟩:=kX (n:=at_) (most:=(A.length:Int)) (by omega);have hHo:=AQ how 10 hh (by omega);obtain⟨c0,c1⟩:=kX (n:=how) (most:=10) (by omega);generalize mV at_ A.length=i at hAr b0 b1;generalize mV how 10=c at hHo c0 c1;obtain⟨i,rfl⟩:=Y4 b0;have hil:i<A.length:=by omega
  obtain⟨x,hx1,hx2,ex,bx⟩:=wF (l:=A) (k:=i) (n:=A.length) hil rfl;have hX:=hS x (Yv hx1);have hG:=hA x (Yv hx1);have hset:∀y:Nd,bG (A.set i y)=(bG A).set i (cD y):=fun y=>by unfold bG;rw[aA6]
  have hfin:∀y:Nd,Br LB y->∀(mem:aQ) (nx:Nat) (e:AV),lk mem 3=some (.row 57 12 ((bG A).set (0+((i:Nat):Int).toNat) e))->C7 mem [] e (cD y)->Xh x y ->
    qE 0 (fun r m k=>∃ns:List Nd,(∀x∈ns,Br LB x)/\ns.length<=14/\(ns=[]∨∃i x y,A[i]? = some x/\Xh x y/\ns=A.set i y)/\r = .agg [.il 12 (bG ns)]/\m=[]/\k=0) (.agg [.sl 3 0 A.length]) mem nx:=fun y hy mem nx e h3 he hk=>by
   refine fL (r':=.agg [.il 12 (bG (A.set i y))]) (.agg' (.cons (.fzR (id:=3) h3 rfl ?_ (by rw[cG];simp)) .nil)) ⟨A.set i y,Ux hS hy,by simpa using hl,.inr ⟨i,x,y,hx1,hk,rfl⟩,rfl,rfl,rfl⟩;rw[hset,show 0+((i:Nat):Int).toNat=i by simp];exact TT (.same (aP _)) he
  obtain⟨kind,name,lo,hi',ws,lbs,vals,kids,⟨vk,vn,vs,vks⟩⟩:=x;clear hA hS ha hh;refine Rr ?_;refine hAr.go ?_;refine Rr ?_;repeat((first|refine aM bx ?_|refine aB ex ?_);refine Rr ?_)
  refine hHo.go ?_;have hw0:=hG.wlen;obtain⟨hw1,hw2⟩:=And.intro hG.vlen hG.klen;have hw3:=hG.llen;simp only at hw0 hw1 hw2 hw3;rcases(show c=0∨c=1∨c=2∨c=3∨c=4∨c=5∨c=6∨c=7∨c=8∨c=9 by omega) with rfl|rfl|rfl|rfl|rfl|rfl|rfl|rfl|rfl|rfl
  ·refine Rr ?_;repeat((first|refine aM bx ?_|refine aB ex ?_|refine b9.2 ?_);refine Rr ?_)
   exact hfin ⟨n,name,lo,hi',ws,lbs,vals,kids,⟨vk,vn,vs,vks⟩⟩ (RY hX hn) _ _ (cD ⟨n,name,lo,hi',ws,lbs,vals,kids,⟨vk,vn,vs,vks⟩⟩) rfl (.same (aV _)) (by first|exact .inl ⟨rfl,by simp⟩|exact .inr ⟨rfl,rfl,rfl⟩)
  ·refine Rr ?_;repeat((first|refine aM bx ?_|refine aB ex ?_|refine b9.2 ?_);refine Rr ?_)
   exact hfin ⟨kind,name,n,hi',ws,lbs,vals,kids,⟨vk,vn,vs,vks⟩⟩ (Wj hX hn) _ _ (cD ⟨kind,name,n,hi',ws,lbs,vals,kids,⟨vk,vn,vs,vks⟩⟩) rfl (.same (aV _)) (by first|exact .inl ⟨rfl,by simp⟩|exact .inr ⟨rfl,rfl,rfl⟩)
  ·refine Rr ?_;repeat((first|refine aM bx ?_|refine aB ex ?_|refine b9.2 ?_);refine Rr ?_)
   exact hfin ⟨kind,name,lo,n,ws,lbs,vals,kids,⟨vk,vn,vs,vks⟩⟩ (XJ hX hn) _ _ (cD ⟨kind,name,lo,n,ws,lbs,vals,kids,⟨vk,vn,vs,vks⟩⟩) rfl (.same (aV _)) (by first|exact .inl ⟨rfl,by simp⟩|exact .inr ⟨rfl,rfl,rfl⟩)
  ·refine Rr ?_;repeat((first|refine aM bx ?_|refine aB ex ?_|refine b9.2 ?_);refine Rr ?_)
   refine aM (bT rfl rfl rfl (by simp only[aI,Y1,Zj];omega)) ?_;refine Rr ?_;refine aM (bT rfl rfl (by simp) (by simp[aI];omega)) ?_;refine Rr ?_;repeat((first|refine aM bx ?_|refine aB ex ?_|refine b9.2 ?_);refine Rr ?_)
   refine hfin ⟨kind,name,lo,hi',ws++[n],lbs,vals,kids,⟨vk,vn,vs,vks⟩⟩ (DO hX (by simp;omega) (Mb hX.ok.weightsI hn)) _ _ (.agg ((cD ⟨kind,name,lo,hi',ws,lbs,vals,kids,⟨vk,vn,vs,vks⟩⟩).cells.set 4 (.sl 8 0 _))) rfl (tG 4 (Dh (id:=8) (t:=3) (xs:=[]++bH ws++[.int .i64 n]) rfl (by simp) (by simp[bH]) (bE _))) (by first|exact .inl ⟨rfl,by simp⟩|exact .inr ⟨rfl,rfl,rfl⟩)
  ·refine Rr ?_;repeat((first|refine aM bx ?_|refine aB ex ?_|refine b9.2 ?_);refine Rr ?_)
   refine aM (bT rfl rfl rfl (by simp only[aI,Y1,Zj];omega)) ?_;refine Rr ?_;refine aM (bT rfl rfl (by simp) (by simp[aI];omega)) ?_;refine Rr ?_;repeat((first|refine aM bx ?_|refine aB ex ?_|refine b9.2 ?_);refine Rr ?_)
   refine hfin ⟨kind,name,lo,hi',ws,lbs,vals,kids++[n],⟨vk,vn,vs,vks⟩⟩ (MW hX (by simp;omega) (Mb hX.ok.kidsI hn)) _ _ (.agg ((cD ⟨kind,name,lo,hi',ws,lbs,vals,kids,⟨vk,vn,vs,vks⟩⟩).cells.set 7 (.sl 8 0 _))) rfl (tG 7 (Dh (id:=8) (t:=3) (xs:=[]++bH kids++[.int .i64 n]) rfl (by simp) (by simp[bH]) (bE _))) (by first|exact .inl ⟨rfl,by simp⟩|exact .inr ⟨rfl,rfl,rfl⟩)
  ·refine Rr ?_;obtain⟨d0,d1⟩:=kX (n:=n) (most:=6) (by omega);have hNa:=AQ n 6 hn (by omega);generalize mV n 6=k at hNa d0 d1;refine hNa.go ?_;rcases(show k=0∨k=1∨k=2∨k=3∨k=4∨k=5 by omega) with rfl|rfl|rfl|rfl|rfl|rfl
   ·refine Rr ?_;repeat((first|refine aM bx ?_|refine aB ex ?_|refine b9.2 ?_);refine Rr ?_)
    exact hfin ⟨kind,[],lo,hi',ws,lbs,vals,kids,⟨vk,vn,vs,vks⟩⟩ (xR hX (by simp)) _ _ (cD ⟨kind,[],lo,hi',ws,lbs,vals,kids,⟨vk,vn,vs,vks⟩⟩) rfl (.same (aV _)) (by first|exact .inl ⟨rfl,by simp⟩|exact .inr ⟨rfl,rfl,rfl⟩)
   ·refine Rr ?_;repeat((first|refine aM bx ?_|refine aB ex ?_|refine b9.2 ?_);refine Rr ?_)
    exact hfin ⟨kind,[80,97,105,114],lo,hi',ws,lbs,vals,kids,⟨vk,vn,vs,vks⟩⟩ (xR hX (by simp)) _ _ (cD ⟨kind,[80,97,105,114],lo,hi',ws,lbs,vals,kids,⟨vk,vn,vs,vks⟩⟩) rfl (.same (aV _)) (by first|exact .inl ⟨rfl,by simp⟩|exact .inr ⟨rfl,rfl,rfl⟩)
   ·refine Rr ?_;repeat((first|refine aM bx ?_|refine aB ex ?_|refine b9.2 ?_);refine Rr ?_)
    exact hfin ⟨kind,[112,97,105,114],lo,hi',ws,lbs,vals,kids,⟨vk,vn,vs,vks⟩⟩ (xR hX (by simp)) _ _ (cD ⟨kind,[112,97,105,114],lo,hi',ws,lbs,vals,kids,⟨vk,vn,vs,vks⟩⟩) rfl (.same (aV _)) (by first|exact .inl ⟨rfl,by simp⟩|exact .inr ⟨rfl,rfl,rfl⟩)
   ·refine Rr ?_;repeat((first|refine aM bx ?_|refine aB ex ?_|refine b9.2 ?_);refine Rr ?_)
    exact hfin ⟨kind,[65,98,95,49],lo,hi',ws,lbs,vals,kids,⟨vk,vn,vs,vks⟩⟩ (xR hX (by simp)) _ _ (cD ⟨kind,[65,98,95,49],lo,hi',ws,lbs,vals,kids,⟨vk,vn,vs,vks⟩⟩) rfl (.same (aV _)) (by first|exact .inl ⟨rfl,by simp⟩|exact .inr ⟨rfl,rfl,rfl⟩)
   ·refine Rr ?_;repeat((first|refine aM bx ?_|refine aB ex ?_|refine b9.2 ?_);refine Rr ?_)
    exact hfin ⟨kind,[76,111,110,103,76,111,110,103,76,111,110,103,76,111,110,103,76],lo,hi',ws,lbs,vals,kids,⟨vk,vn,vs,vks⟩⟩ (xR hX (by simp)) _ _ (cD ⟨kind,[76,111,110,103,76,111,110,103,76,111,110,103,76,111,110,103,76],lo,hi',ws,lbs,vals,kids,⟨vk,vn,vs,vks⟩⟩) rfl (.same (aV _)) (by first|exact .inl ⟨rfl,by simp⟩|exact .inr ⟨rfl,rfl,rfl⟩)
   ·refine Rr ?_;repeat((first|refine aM bx ?_|refine aB ex ?_|refine b9.2 ?_);refine Rr ?_)
    exact hfin ⟨kind,[65,45,98],lo,hi',ws,lbs,vals,kids,⟨vk,vn,vs,vks⟩⟩ (xR hX (by simp)) _ _ (cD ⟨kind,[65,45,98],lo,hi',ws,lbs,vals,kids,⟨vk,vn,vs,vks⟩⟩) rfl (.same (aV _)) (by first|exact .inl ⟨rfl,by simp⟩|exact .inr ⟨rfl,rfl,rfl⟩)
  ·refine Rr ?_;repeat((first|refine aM bx ?_|refine aB ex ?_|refine b9.2 ?_);refine Rr ?_)
   refine aM (bT rfl rfl rfl (by simp only[bY,Y1,Zj];omega)) ?_;refine Rr ?_;refine aM (bT rfl rfl (by simp) (by simp[bY];omega)) ?_;refine Rr ?_;repeat((first|refine aM bx ?_|refine aB ex ?_|refine b9.2 ?_);refine Rr ?_)
   refine hfin ⟨kind,name,lo,hi',ws,lbs++[[120]],vals,kids,⟨vk,vn,vs,vks⟩⟩ (OW hX (by simp;omega) (Qk hX.lab) hlb) _ _ (.agg ((cD ⟨kind,name,lo,hi',ws,lbs,vals,kids,⟨vk,vn,vs,vks⟩⟩).cells.set 5 (.sl 8 0 _))) rfl (tG 5 (Dh (id:=8) (t:=9) (xs:=[]++rO lbs++[.str [120]]) rfl (by simp) (by simp[rO]) (oQ _))) (by first|exact .inl ⟨rfl,by simp⟩|exact .inr ⟨rfl,rfl,rfl⟩)
  ·refine Rr ?_;repeat((first|refine aM bx ?_|refine aB ex ?_|refine b9.2 ?_);refine Rr ?_)
   refine aM (bT rfl rfl rfl (by simp only[aC,Y1,Zj];omega)) ?_;refine Rr ?_;refine aM (bT rfl rfl (by simp) (by simp[aC];omega)) ?_;refine Rr ?_;repeat((first|refine aM bx ?_|refine aB ex ?_|refine b9.2 ?_);refine Rr ?_)
   refine hfin ⟨kind,name,lo,hi',ws,lbs,vals++[.mk 0 n [] []],kids,⟨vk,vn,vs,vks⟩⟩ (OL hX (by simp;omega) (Oo ⟨hX.ok.valuesI,hX.vals⟩ (L5 0 n ⟨by decide,by decide⟩ hn))) _ _ (.agg ((cD ⟨kind,name,lo,hi',ws,lbs,vals,kids,⟨vk,vn,vs,vks⟩⟩).cells.set 6 (.sl 8 0 _))) rfl (tG 6 (.fzR (id:=8) (t:=55) (xs:=[]++aU vals++[.agg [.int .i64 0,.int .i64 n,.str [],.nsl]]) rfl rfl ?_ (by simp[aC]))) (by first|exact .inl ⟨rfl,by simp⟩|exact .inr ⟨rfl,rfl,rfl⟩)
   show tL _ _ _ (aU (vals++[.mk 0 n [] []]))
   rw[i5];exact .snoc (by simp) (.same (bI _)) (I4 _ _ _)
  ·refine Rr ?_;obtain⟨d0,d1⟩:=kX (n:=n) (most:=5) (by omega);have hNa:=AQ n 5 hn (by omega);generalize mV n 5=k at hNa d0 d1;refine hNa.go ?_;refine Rr ?_;repeat((first|refine aM bx ?_|refine aB ex ?_|refine b9.2 ?_);refine Rr ?_)
   obtain⟨q1,q2⟩:=L5 k n (by constructor<;>omega) hn;exact hfin ⟨kind,name,lo,hi',ws,lbs,vals,kids,⟨k,n,[],[]⟩⟩ (Qd hX q1 q2) _ _ (.agg ((cD ⟨kind,name,lo,hi',ws,lbs,vals,kids,⟨k,n,[],[]⟩⟩).cells.set 11 .nsl)) rfl (tG 11 (.nil 4)) (by first|exact .inl ⟨rfl,by simp⟩|exact .inr ⟨rfl,rfl,rfl⟩)
  ·refine Rr ?_;by_cases hw:ws.length=0
   ·rw[show decide (((bH ws).length:Int)>0)=false by rw[aI,aAf];omega];refine Rr ?_;by_cases hk:kids.length=0
    ·rw[show decide (((bH kids).length:Int)>0)=false by rw[aI,aAf];omega];refine Rr ?_;repeat((first|refine aM bx ?_|refine aB ex ?_|refine b9.2 ?_);refine Rr ?_)
     exact hfin ⟨kind,name,lo,hi',ws,lbs,vals,kids,⟨vk,vn,vs,vks⟩⟩ hX _ _ (cD ⟨kind,name,lo,hi',ws,lbs,vals,kids,⟨vk,vn,vs,vks⟩⟩) rfl (.same (aV _)) (by first|exact .inl ⟨rfl,by simp⟩|exact .inr ⟨rfl,rfl,rfl⟩)
    ·rw[show decide (((bH kids).length:Int)>0)=true by rw[aI];simp;omega];refine Rr ?_;refine aM (bT rfl rfl rfl (by simp only[aI,Y1,Zj];omega)) ?_;refine Rr ?_;refine aM (Yp (by simp[aI];omega)) ?_;refine Rr ?_;have hg:=g0 kids hk;generalize kids[0]'_=o at hg;refine aB hg ?_;refine Rr ?_;repeat((first|refine aM bx ?_|refine aB ex ?_|refine aB hg ?_|refine b9.2 ?_);refine Rr ?_)
     refine hfin ⟨kind,name,lo,hi',ws,lbs,vals,kids.set 0 n,⟨vk,vn,vs,vks⟩⟩ (MW hX (by simp;omega) (IA hX.ok.kidsI hn)) _ _ (.agg ((cD ⟨kind,name,lo,hi',ws,lbs,vals,kids,⟨vk,vn,vs,vks⟩⟩).cells.set 7 (.sl 6 0 _))) rfl (tG 7 (Dh (id:=6) (t:=3) (xs:=([]++bH kids).set (0+(0:Int).toNat) (.int .i64 n)) rfl (by simp) (by simp[bH]) (bE _))) (by first|exact .inl ⟨rfl,by simp⟩|exact .inr ⟨rfl,rfl,rfl⟩)
   ·rw[show decide (((bH ws).length:Int)>0)=true by rw[aI];simp;omega];refine Rr ?_;refine aM (bT rfl rfl rfl (by simp only[aI,Y1,Zj];omega)) ?_;refine Rr ?_;refine aM (Yp (by simp[aI];omega)) ?_;refine Rr ?_;have hg:=g0 ws hw;generalize ws[0]'_=o at hg;refine aB hg ?_;refine Rr ?_;repeat((first|refine aM bx ?_|refine aB ex ?_|refine aB hg ?_|refine b9.2 ?_);refine Rr ?_)
    refine hfin ⟨kind,name,lo,hi',ws.set 0 n,lbs,vals,kids,⟨vk,vn,vs,vks⟩⟩ (DO hX (by simp;omega) (IA hX.ok.weightsI hn)) _ _ (.agg ((cD ⟨kind,name,lo,hi',ws,lbs,vals,kids,⟨vk,vn,vs,vks⟩⟩).cells.set 4 (.sl 6 0 _))) rfl (tG 4 (Dh (id:=6) (t:=3) (xs:=([]++bH ws).set (0+(0:Int).toNat) (.int .i64 n)) rfl (by simp) (by simp[bH]) (bE _))) (by first|exact .inl ⟨rfl,by simp⟩|exact .inr ⟨rfl,rfl,rfl⟩)
set_option maxHeartbeats 8000000
theorem UZ(ns:List Nd)(n:Nat)(hn:n<=ns.length)(hl:ns.length<=100000)(hg:∀(i:Nat) (x:Nd),i<n->ns[i]? = some x->jU i x) :
  aF prog [] 127 [.agg [.il 12 (bG ns)],.int .i64 n] [] 0 fun r m k=>r = .sl 0 0 n/\m=[(0,.row 225 2 (Go.Ax.encLs (aO (ns.take n))))]/\k=1:=by
 refine aD bD func127 rfl ?_;refine Rr ?_;refine aZ.ph 225 2 ?_;refine aZ.at bD (fun i:Nat=>i<=n)
  (fun i=>⟨[(1,.int .i64 n),(2,.ptr 1 0 0),(5,.sl 2 0 i),(6,.int .i64 i)],[(1,.row 25 1 [.agg [.il 12 (bG ns)]]),(2,.row 225 2 (Go.Ax.encLs (aO (ns.take i))))],3,23⟩)
  (fun i=>n-i) 0 [(0,1),(1,2)] (by simp)
  (aE _ rfl ⟨aL 0 (.cons (.agg' (.cons (.il' (aP _)) .nil)) .nil),aL 1 .nil,trivial⟩ ⟨aK,aG,⟨_,rfl,.nslk 1 2 _ rfl rfl⟩,aK,trivial⟩) ?_
 intro i hi;refine Rr ?_;refine aH (fun h=>?_) (fun h=>?_)
 ·have hin:i<n:=by simp at h;omega
  obtain⟨x,hx1,hx2,ex,bx⟩:=wF (l:=ns) (k:=i) (n:=ns.length) (by omega) rfl;have ex:(bG ns)[((i:Nat):Int).toNat]? = some (cD x):=by rw[ZD] at ex;exact ex
  have hgx:=hg i x hin hx1;have htl:(aO (ns.take i)).length=i:=by rw[eH];simp;omega
  have hL:=UF i x (aO (ns.take i)) hgx htl.symm (jY _ fun j y hy=>by
   have hj:=(Yn.1 hy).1;rw[ZJ,Yt (by simp at hj;omega)] at hy;exact hg j y (by simp at hj;omega) hy)
  have hnx:aO (ns.take (i+1))=aO (ns.take i)++[dR x (aO (ns.take i))]:=by rw[Ys (by omega),hx2,iT]
  have hxn:=aV x;have hxc:(cD x).cells.length=12:=by obtain⟨kind,name,lo,hi,ws,ls,vals,kids,⟨vk,vn,vs,vks⟩⟩:=x;rfl
  generalize dR x (aO (ns.take i))=nl at hL hnx;obtain⟨bs,hbs⟩:∃bs,bs=aO (ns.take i):=⟨_,rfl⟩
  rw[←hbs] at hL hnx htl ⊢;obtain⟨kind,name,lo,hi,ws,ls,vals,kids,⟨vk,vn,vs,vks⟩⟩:=x;refine Rr ?_;repeat((first|refine aM bx ?_|refine aB ex ?_);refine Rr ?_)
  refine aF.use1 bD hL 2 rfl (Go.Ax.encLs_nn bs) (.cons (.same _ hxn) (.cons (.slE rfl htl.symm) .nil)) ?_;rintro r m k ⟨rfl,rfl⟩;refine⟨_,rfl,oO _,Go.Ax.encLs_nn bs, ?_⟩;refine Rr ?_;refine aM (bT rfl rfl (by rw[Go.Ax.encLs_length,htl]) (by simp;omega)) ?_;refine Rr ?_;exact .mk (i+1) [(1,1),(4,2)] (by omega)
   (aE _ rfl ⟨aL 1 (.cons (.agg' (.cons (.il' (aP _)) .nil)) .nil),⟨4,_,rfl,rfl,.eq (Go.Ax.encLs_nn _) (by rw[hnx];simp[Go.Ax.encLs])⟩,trivial⟩ ⟨aK,aG,⟨_,rfl,.slE rfl (by simp)⟩,⟨_,rfl,.wo⟩,trivial⟩) (by omega)
 ·have hin:i=n:=by simp at h;omega
  subst hin;refine Rr ?_;exact bF (r':=.sl 0 0 i) (n':=1) (m':=[(0,.row 225 2 (Go.Ax.encLs (aO (ns.take i))))]) [(2,0)] rfl ⟨aL 2 (Go.Ax.encLs_nn _),trivial⟩ (.sl 2 0 0 _ rfl) ⟨rfl,rfl,rfl⟩
theorem Si(ns:List Nd)(i:Nat)(hi:i<ns.length)(hl:ns.length<=100000)(hg:∀(j:Nat) (x:Nd),j<i+1->ns[j]? = some x->jU j x) :
  aF prog [] 69 [.agg [.il 12 (bG ns)],.int .i64 i] [] 0 fun r m k=>r = .tup [.il 4 (aU (dS (aO (ns.take (i+1))) i).vals),.bool (!(dS (aO (ns.take (i+1))) i).many)]/\m=[]/\k=0:=by
 have hL:=UZ ns (i+1) (by omega) hl hg;have hw:IntKind.i64.wrap ((i:Int)+1)=((i+1:Nat):Int):=w64 (by omega) ⟨by omega,by omega⟩;have hat:=GO hi;have hlen:(aO (ns.take (i+1))).length=i+1:=by rw[eH];simp;omega
 generalize dS (aO (ns.take (i+1))) i=b at hat ⊢;generalize aO (ns.take (i+1))=bs at hL hat hlen;obtain⟨bv,bm⟩:=b;have e2:(Go.Ax.encLs bs)[0+((i:Nat):Int).toNat]? = some (nJ ⟨bv,bm⟩):=by rw[ZD,Yl,Go.Ax.encLs_get,hat];rfl
 have b2:Nat.blt ((i:Nat):Int).toNat (i+1)=true:=Yp (by simp);refine aD bD func69 rfl ?_;refine Rr ?_;rw[hw];refine aF.useN bD [] hL rfl (.cons (.same _ (.agg' (.cons (.il' (aP _)) .nil))) (.s .nil)) trivial rfl ?_;rintro r m k ⟨rfl,rfl,rfl⟩;refine⟨[(0,2)],.sl 2 0 (i+1),[(2,.row 225 2 (Go.Ax.encLs bs))],3,.sl 0 2 0 _ rfl,⟨aL 0 (Go.Ax.encLs_nn _),trivial⟩,rfl, ?_⟩;refine Rr ?_;repeat((first|refine bO ?_|refine aM b2 ?_|refine aB e2 ?_);refine Rr ?_)
 exact aA nn ⟨rfl,rfl,rfl⟩
theorem jJ(ns:List Nd)(x:Nd)(i:Nat)(hi:i<=ns.length)(hl:ns.length<=100000)(hg:∀(j:Nat) (x:Nd),j<i->ns[j]? = some x->jU j x)(hx:uW x)(hk0:0<x.kids.length)(hk:∀(j:Nat) (k:Int),x.kids[j]? = some k->0<=k/\k<i) :
  aT prog [] 34 [.agg [.il 12 (bG ns)],cD x] (.int .i64 (fK ns x)):=by
 obtain⟨q,hq⟩:∃q,x.kids[0]? = some q:=⟨x.kids[0],Yj hk0⟩
 obtain⟨q1,q2⟩:=hk 0 q hq;obtain⟨qn,rfl⟩:=Y4 q1;have hgd:x.kids.getD 0 0=qn:=by rw[Ym,hq];rfl
 have hV:=Si ns qn (by omega) hl fun j y hj hy=>hg j y (by omega) hy
 have hbl:=r8 (jY (ns.take (qn+1)) fun j y hy=>hg j y (by have:=(g7 hy).2;omega) (g7 hy).1) qn;have hbe:fK ns x=if (dS (aO (ns.take (qn+1))) qn).many=true then 4 else if c9 (dS (aO (ns.take (qn+1))) qn).vals x.values=true then 0 else 1:=by
  unfold fK;simp only[hgd,Yl]
 rw[hbe];generalize dS (aO (ns.take (qn+1))) qn=b at hV hbl ⊢;obtain⟨bv,bm⟩:=b;simp only at hV hbl ⊢;have hS:=MZ bv x.values (by omega) hbl.2;generalize c9 bv x.values=sm at hS ⊢;have ek:(bH x.kids)[(0:Int).toNat]? = some (.int .i64 (qn:Int)):=by rw[bU];simp[hq]
 obtain⟨kind,name,lo,hi',ws,ls,vals,kids,⟨vk,vn,vs,vks⟩⟩:=x;simp only at hS ek;refine aD bD func34 rfl ?_;refine Rr ?_;repeat((first|refine bO ?_|refine aB ek ?_);refine Rr ?_)
 refine aT.go hV ?_ (.cons (.agg' (.cons (.il' (aP _)) .nil)) (.cons nn .nil));cases bm with
 | true=>
  refine Rr ?_;repeat((first|refine bO ?_|refine aB ek ?_);refine Rr ?_)
  exact aA nn ⟨rfl,rfl,rfl⟩
 | false=>
  refine Rr ?_;repeat((first|refine bO ?_|refine aB ek ?_);refine Rr ?_)
  refine hS.go ?_;cases sm with
  | true=>
   refine Rr ?_;exact aA nn ⟨rfl,rfl,rfl⟩
  | false=>
   refine Rr ?_;exact aA nn ⟨rfl,rfl,rfl⟩
theorem VM(ns:List Nd)(hl:ns.length<=100000)(ho:∀x∈ns,uW x/\x.values.length<=4294967290) :
  aT prog [] 8 [.agg [.il 12 (bG ns)]] (.int .i64 (dM ns)):=by
 have hfin:∀(e:Int) (mem:aQ) (nx:Nat),e=dM ns->qE 0 (fun r m n=>r = .int .i64 (dM ns)/\m=[]/\n=0) (.int .i64 e) mem nx:=by
  intro e mem nx he;exact aA nn ⟨by rw[he],rfl,rfl⟩
 refine aD bD func8 rfl ?_;refine Rr ?_;refine aH (fun h=>?_) (fun h=>?_)
 ·have h1:4096<ns.length:=by rw[cG] at h;simp at h;omega
  refine Rr ?_;exact hfin _ _ _ (by unfold dM;rw[Yt h1])
 ·have h1:¬4096<ns.length:=by rw[cG] at h;simp at h;omega
  have hvt:dM ns=cP [] ns:=by unfold dM;rw[Yo h1]
  refine Rr ?_;refine aZ.ph 3 1 ?_;refine aZ.ph 3 1 ?_;refine aZ.at bD (fun i:Nat=>i<=ns.length/\cP [] (ns.take i)=0)
   (fun i=>⟨[(1,.ptr 1 0 0),(3,.sl 2 0 i),(4,.sl 3 0 i),(5,.int .i64 i)],[(1,.row 25 1 [.agg [.il 12 (bG ns)]]),(2,.row 3 1 (bH (b8 (ns.take i)))),(3,.row 3 1 (bH (cV (ns.take i))))],4,57⟩)
   (fun i=>ns.length-i) 0 [(0,1),(1,2),(2,3)] ⟨by simp,by simp[cP]⟩
   (aE _ rfl ⟨aL 0 (.cons (.agg' (.cons (.il' (aP _)) .nil)) .nil),aL 1 .nil,aL 2 .nil,trivial⟩ ⟨aG,⟨_,rfl,.nslk 1 2 _ rfl rfl⟩,⟨_,rfl,.nslk 2 3 _ rfl rfl⟩,aK,trivial⟩) ?_
  rintro i ⟨hi,hv0⟩;refine Rr ?_;refine aH (fun h=>?_) (fun h=>?_)
  ·have hin:i<ns.length:=by rw[cG] at h;simp at h;omega
   obtain⟨x,hx1,hx2,ex,bx⟩:=wF (l:=ns) (k:=i) (n:=ns.length) hin rfl;have hxm:=Yv hx1;have ex:(bG ns)[((i:Nat):Int).toNat]? = some (cD x):=by rw[ZD] at ex;exact ex
   obtain⟨hxo,hxv⟩:=ho x hxm;have hsplit:ns=ns.take i++x::ns.drop (i+1):=by rw[←hx2,←List.drop_eq_getElem_cons hin,List.take_append_drop]
   have hti:(ns.take i).length=i:=by simp;omega
   have htn:ns.take (i+1)=ns.take i++[x]:=by rw[Ys hin,hx2]
   have hgood:=lR (ns.take i) (fun y hy=>(ho y (ZG hy)).1) hv0;obtain⟨hls,hss⟩:=kE (ns.take i) hv0;have hll:(b8 (ns.take i)).length=i:=by rw[kH,hti]
   have hsl:(cV (ns.take i)).length=i:=by rw[kJ,hti]
   have hstop:=fun hs=>vZ (l:=ns.take i) (r:=ns.drop (i+1)) (x:=x) hv0 hs
   rw[←hsplit] at hstop;have hgo:=gF [] (ns.take i) x hv0;rw[ZS,←htn] at hgo;have hN:=To i x (by omega) hxo hxv;have hlt:=lK (ns.take i) x;have hst:=lV (ns.take i) x;rw[←htn] at hlt hst;have hse:iE (ns.take i) (b8 (ns.take i)) (cV (ns.take i)) x=if fS i x≠0 then fS i x else if 256<iJ (b8 (ns.take i)) x∨1024<lP (cV (ns.take i)) x then 4 else if x.kind=4 then fK (ns.take i) x else 0:=by
    unfold iE;rw[hti]
   have hbnd:(0<x.kids.length/\∀(j:Nat) (k:Int),x.kids[j]? = some k->0<=k/\k<i)->fK (ns.take i) x=fK ns x:=by
    rintro⟨h0,hk⟩;obtain⟨q,hq⟩:∃q,x.kids[0]? = some q:=⟨x.kids[0],Yj h0⟩
    obtain⟨q1,q2⟩:=hk 0 q hq;have hgd:x.kids.getD 0 0=q:=by rw[Ym,hq];rfl
    unfold fK;simp only[hgd];rw[aAM,aAm (by omega)]
   have hxn:=aV x;obtain⟨ne,hne⟩:∃ne,ne=fS i x:=⟨_,rfl⟩
   rw[←hne] at hN hse;by_cases n0:ne=0
   ·subst n0;have hok:=mT hne.symm;have h4:4<=x.kind->0<x.kids.length:=fun h=>by have:=hok.bind (by have:=hok.kind;omega);omega
    have hL:=Ju (b8 (ns.take i)) x hxo (by omega) hls (by rw[hll];exact hok.kids) h4 hok.kind;have hS:=QM (cV (ns.take i)) x hxo (by omega) hss (by rw[hsl];exact hok.kids) h4 hok.kind;have hB:=jJ ns x i (by omega) hl (fun j y hj hy=>hgood j y (by rw[ZJ,Yt hj];exact hy)) hxo;rw[Yo (by simp)] at hse;generalize b8 (ns.take i)=lsI at hL hll hlt hse hstop hgo hls ⊢;generalize cV (ns.take i)=ssI at hS hsl hst hse hstop hgo hss ⊢;generalize iJ lsI x=ln at hL hlt hse;generalize lP ssI x=sn at hS hst hse;obtain⟨kind,name,lo,hi',ws,ls,vals,kids,⟨vk,vn,vs,vks⟩⟩:=x;simp only at hse h4 hB hbnd hok;refine Rr ?_;repeat((first|refine aM bx ?_|refine aB ex ?_);refine Rr ?_)
    refine hN.go ?_ (.cons (.int _ _) (.cons hxn .nil));refine Rr ?_;refine aF.useApp bD hL 2 rfl (bE _) (.cons (.slE rfl hll.symm) (.cons (.same _ hxn) .nil)) ?_;rintro len ys ⟨rfl,rfl⟩;refine Rr ?_;refine aF.useApp bD hS 3 rfl (bE _) (.cons (.slE rfl hsl.symm) (.cons (.same _ hxn) .nil)) ?_;rintro len ys ⟨rfl,rfl⟩;have el:(bH (lsI++[ln]))[0+((i:Nat):Int).toNat]? = some (.int .i64 ln):=by simp[bH,hll]
    have bl:Nat.blt ((i:Nat):Int).toNat (lsI.length+1)=true:=Yp (by simp;omega);have es:(bH (ssI++[sn]))[0+((i:Nat):Int).toNat]? = some (.int .i64 sn):=by simp[bH,hsl]
    have bs':Nat.blt ((i:Nat):Int).toNat (ssI.length+1)=true:=Yp (by simp;omega);refine Rr ?_;repeat((first|refine aM bl ?_|refine aB el ?_);refine Rr ?_)
    refine aH (fun h2=>?_) (fun h2=>?_)
    ·have h3:256<ln:=by simpa using h2
     rw[h2];rw[Yt (.inl h3)] at hse;have hres:=hstop (by rw[hse];omega);refine Rr ?_;exact hfin _ _ _ (by rw[hvt,hres,hse])
    ·have h3:¬256<ln:=by simpa using h2
     rw[h2];refine Rr ?_;repeat((first|refine aM bs' ?_|refine aB es ?_);refine Rr ?_)
     refine aH (fun h4'=>?_) (fun h4'=>?_)
     ·have h5:1024<sn:=by simpa using h4'
      rw[h4'];rw[Yt (.inr h5)] at hse;have hres:=hstop (by rw[hse];omega);refine Rr ?_;exact hfin _ _ _ (by rw[hvt,hres,hse])
     ·have h5:¬1024<sn:=by simpa using h4'
      rw[h4'];rw[Yo (by omega)] at hse;by_cases k4:kind=4
      ·rw[Yt k4] at hse;have h40:=h4 (by omega);have hB:=hB h40 hok.kids;rw[hbnd ⟨h40,hok.kids⟩] at hse;generalize fK ns ⟨kind,name,lo,hi',ws,ls,vals,kids,.mk vk vn vs vks⟩=be at hB hse;subst k4;refine Rr ?_;refine hB.go ?_ (.cons (.agg' (.cons (.il' (aP _)) .nil)) (.cons hxn .nil));by_cases be0:be=0
       ·subst be0;rw[hse] at hgo;refine Rr ?_;exact .mk (i+1) [(1,1),(5,2),(6,3)] ⟨by omega,hgo⟩
         (aE _ rfl ⟨aL 1 (.cons (.agg' (.cons (.il' (aP _)) .nil)) .nil),⟨5,_,rfl,rfl,.eq (bE _) (by rw[hlt])⟩,⟨6,_,rfl,rfl,.eq (bE _) (by rw[hst])⟩,trivial⟩ ⟨aG,⟨_,rfl,.slE rfl (by rw[hll])⟩,⟨_,rfl,.slE rfl (by rw[hsl])⟩,⟨_,rfl,.wo⟩,trivial⟩) (by omega)
       ·have d5:(be != 0)=true:=by simpa using be0
        have hres:=hstop (by rw[hse];exact be0);refine Rr ?_;rw[d5];refine Rr ?_;exact hfin _ _ _ (by rw[hvt,hres,hse])
      ·rw[Yo k4] at hse;have d4:(kind == 4)=false:=by simpa using k4
       rw[hse] at hgo;refine Rr ?_;rw[d4];refine Rr ?_;exact .mk (i+1) [(1,1),(5,2),(6,3)] ⟨by omega,hgo⟩
        (aE _ rfl ⟨aL 1 (.cons (.agg' (.cons (.il' (aP _)) .nil)) .nil),⟨5,_,rfl,rfl,.eq (bE _) (by rw[hlt])⟩,⟨6,_,rfl,rfl,.eq (bE _) (by rw[hst])⟩,trivial⟩ ⟨aG,⟨_,rfl,.slE rfl (by rw[hll])⟩,⟨_,rfl,.slE rfl (by rw[hsl])⟩,⟨_,rfl,.wo⟩,trivial⟩) (by omega)
   ·have d1:(ne != 0)=true:=by simpa using n0
    have hse':=hse;rw[Yt n0] at hse';have hres:=hstop (by rw[hse'];exact n0);rw[hse'] at hres;obtain⟨kind,name,lo,hi',ws,ls,vals,kids,⟨vk,vn,vs,vks⟩⟩:=x;refine Rr ?_;repeat((first|refine aM bx ?_|refine aB ex ?_);refine Rr ?_)
    refine hN.go ?_ (.cons (.int _ _) (.cons hxn .nil));refine Rr ?_;rw[d1];refine Rr ?_;exact hfin _ _ _ (by rw[hvt,hres])
  ·have hin:i=ns.length:=by rw[cG] at h;simp at h;omega
   subst hin;rw[ZB] at hv0;refine Rr ?_;exact hfin _ _ _ (by rw[hvt,hv0])
end Go.Proofs.YtidjhgajglebnaaGreatDoor
namespace Go.Ax
open Go
def Hg(nx:Nat):aQ->aQ->(aQ->aQ->Prop)->Prop
 | [],acc,K=>K acc []
 | (i,b)::r,acc,K=>match Nat.ble nx i with
  | true=>Hg nx r ((i,b)::acc) K
  | false=>K acc ((i,b)::r)
def M1(f:AV->(AV->Prop)->Prop->Prop):List AV->(List AV->Prop)->Prop->Prop
 | [],K,_=>K []
 | a::r,K,N=>f a (fun b=>M1 f r (fun t=>K (b::t)) N) N
def Oh:Nat->aQ->AV->(AV->Prop)->Prop->Prop
 | 0,_,_,_,N=>N
 | n+1,m,v,K,N=>match v with
  | .bool b=>K (.bool b)
  | .int k i=>K (.int k i)
  | .str s=>K (.str s)
  | .nptr=>K .nptr
  | .nsl=>K .nsl
  | .nmap=>K .nmap
  | .nfn=>K .nfn
  | .nif=>K .nif
  | .sl id off len=>match lk m id with
   | some (.row t sz xs)=>match Nat.ble (off+len) xs.length with
    | true=>M1 (Oh n m) ((xs.drop off).take len) (fun ys=>K (.il sz ys)) N
    | false=>N
   | _=>N
  | .il sz xs=>M1 (Oh n m) xs (fun ys=>K (.il sz ys)) N
  | .ifc t v=>Oh n m v (fun v'=>K (.ifc t v')) N
  | .agg cs=>M1 (Oh n m) cs (fun ys=>K (.agg ys)) N
  | .tup cs=>M1 (Oh n m) cs (fun ys=>K (.tup ys)) N
  | _=>N
theorem En{f:AV->(AV->Prop)->Prop->Prop}{g:AV->Option AV}{N:Prop}(hf:∀v K,f v K N->N∨∃v',g v=some v'/\K v'):∀{l:List AV} {K:List AV->Prop},M1 f l K N->N∨∃l',Bz g l=some l'/\K l'
 | [],K,h=>.inr ⟨[],rfl,h⟩
 | a::r,K,h=>by
  rcases hf a _ h with h|⟨b,h1,h⟩
  ·exact .inl h
  ·rcases En hf h with h|⟨t,h2,h⟩
   ·exact .inl h
   ·exact .inr ⟨b::t,by simp only[Bz,h1,h2],h⟩
theorem Ty{m:aQ}{N:Prop}:∀(n:Nat) (v:AV) (K:AV->Prop),Oh n m v K N->N∨∃v',frz n [] m v=some v'/\K v'
 | 0,v,K,h=>.inl h
 | n+1,v,K,h=>by
  have ih:=Ty (m:=m) (N:=N) n;cases v with
  | bool b=>exact .inr ⟨_,rfl,h⟩
  | int k i=>exact .inr ⟨_,rfl,h⟩
  | str s=>exact .inr ⟨_,rfl,h⟩
  | nptr=>exact .inr ⟨_,rfl,h⟩
  | nsl=>exact .inr ⟨_,rfl,h⟩
  | nmap=>exact .inr ⟨_,rfl,h⟩
  | nfn=>exact .inr ⟨_,rfl,h⟩
  | nif=>exact .inr ⟨_,rfl,h⟩
  | ptr id i j=>exact .inl h
  | mp id=>exact .inl h
  | ip v=>exact .inl h
  | fn f a b=>exact .inl h
  | junk=>exact .inl h
  | yld id=>exact .inl h
  | sl id off len=>
   simp only[Oh] at h;split at h
   ·rename_i t sz xs hx;split at h
    ·rename_i hle;rcases En ih h with h|⟨ys,h1,h⟩
     ·exact .inl h
     ·exact .inr ⟨_,by simp only[frz,lk,hx,hle,h1],h⟩
    ·exact .inl h
   ·exact .inl h
  | il sz xs=>
   simp only[Oh] at h;rcases En ih h with h|⟨ys,h1,h⟩
   ·exact .inl h
   ·exact .inr ⟨_,by simp only[frz,h1],h⟩
  | ifc t v=>
   simp only[Oh] at h;rcases ih v _ h with h|⟨v',h1,h⟩
   ·exact .inl h
   ·exact .inr ⟨_,by simp only[frz,h1],h⟩
  | agg cs=>
   simp only[Oh] at h;rcases En ih h with h|⟨ys,h1,h⟩
   ·exact .inl h
   ·exact .inr ⟨_,by simp only[frz,h1],h⟩
  | tup cs=>
   simp only[Oh] at h;rcases En ih h with h|⟨ys,h1,h⟩
   ·exact .inl h
   ·exact .inr ⟨_,by simp only[frz,h1],h⟩
def YR(nx:Nat)(K:AV->aQ->Nat->Prop)(r:AV)(m:aQ)(n:Nat):Prop:=
 Hg nx m [] fun m1 rest=>Oh 60 m1 r (fun r'=>K r' rest n) (K r m n)
theorem JA{nx:Nat}:∀{m acc:aQ} {K:aQ->aQ->Prop},Hg nx m acc K->∃m0 rest,m=m0++rest/\K (m0.reverse++acc) rest
 | [],acc,K,h=>⟨[],[],rfl,h⟩
 | (i,b)::r,acc,K,h=>by
  simp only[Hg] at h;split at h
  ·obtain⟨m0,rest,h1,h2⟩:=JA h;exact⟨(i,b)::m0,rest,by rw[h1];rfl,by simpa using h2⟩
  ·exact⟨[],(i,b)::r,rfl,h⟩
theorem MR.sub{Γ:List (Nat × AV)}{X:Nat->Prop}{ρ:Nat->dG}{D:Nat->Prop}{mem rest:aQ}{w:World}(hm:MR Γ X ρ D mem w)(hs:∀p∈rest,p∈mem)(hn:(rest.map (·.1)).Nodup):MR Γ X ρ D rest w:=by
 have ho:∀b,¬OX X ρ mem b->¬OX X ρ rest b:=by
  rintro b h (h'|⟨p,hp,h1,h2⟩)
  ·exact h (.inl h')
  ·exact h (.inr ⟨p,hs p hp,h1,h2⟩)
 refine⟨fun p h=>hm.low p (hs p h),fun p h hn=>?_,fun p h=>hm.emp p (hs p h),fun p h q h'=>hm.inj p (hs p h) q (hs q h'),hn,fun b hb=>⟨(hm.bar b hb).1,fun⟨p,hp,h1,h2⟩=>(hm.bar b hb).2 ⟨p,hs p hp,h1,h2⟩⟩,fun p h=>(hm.glo p h).mono (fun _ _=>rfl) (fun _ h=>h) fun b _ h=>⟨ho b h,rfl⟩⟩;obtain⟨o,h1,h2⟩:=hm.blk p (hs p h) hn;exact⟨o,h1,h2.mono (fun _ _=>rfl) (fun _ h=>h) fun b _ h=>⟨ho b h,rfl⟩⟩
theorem QU{P:Program}{Γ:List (Nat × AV)}(hΓ:∀p∈Γ,NN p.2){F:FuncId}{args:List AV}{mem:aQ}{nx:Nat}{K:AV->aQ->Nat->Prop}{Kp:Value->aQ->Nat->Prop}(h:gC P Γ F args mem nx (YR nx K) Kp):gC P Γ F args mem nx K Kp:=by
 refine⟨fun X D ρ w vs hD hm hv=>(h.run X D ρ w vs hD hm hv).mono ?_⟩;rintro e w' ⟨m',n',ρ',hn,hm',hext,hend⟩;rcases hend with⟨r,v,rfl,hq,hr⟩|⟨x,rfl,hq⟩
 ·obtain⟨m0,rest,rfl,hq⟩:=JA hq;rw[ZZ] at hq;rcases Ty 60 r _ hq with hq|⟨r',h1,hq⟩
  ·exact⟨_,n',ρ',hn,hm',hext,.inl ⟨r,v,rfl,hq,hr⟩⟩
  ·have hnd:=hm'.nod;rw[Zk,aAR] at hnd;obtain⟨d1,d2,d3⟩:=hnd;have hp:yU (m0++rest) m0.reverse rest:=⟨fun p h=>ZM _ (aBG.1 h),fun p h=>Zz _ h,fun p h=>by
    rcases Yz.1 h with h|h
    ·exact .inl (aBG.2 h)
    ·exact .inr h,fun p h1 q h2=>d3 _ (ZF.2 ⟨p,aBG.1 h1,rfl⟩) _ (ZF.2 ⟨q,h2,rfl⟩),by
    rw[List.map_reverse];exact List.pairwise_reverse.2 (d1.imp fun h=>Ne.symm h)⟩
   obtain⟨p1,pv⟩:=hm'.part hp;have hF:=oE (m:=m0.reverse) (σ:=[]) 60 r r' h1;obtain⟨-,v1,-⟩:=Do (σ:=[]) (m':=[]) (n':=n') hΓ hD p1 (fun p hp=>by cases hp) aBB (fun i j k h=>by simp[lk] at h) (fun i j h=>by simp[lk] at h);have e:oT [] ρ' ρ'=ρ':=funext fun i=>Bc (by rintro⟨j,h⟩;simp[lk] at h)
   have hv':=v1 r r' hF.cv v (pv _ _ hr);rw[e] at hv';refine⟨rest,n',ρ',hn,hm'.sub (fun p h=>Zz _ h) d2,⟨hext.le,hext.agree,hext.size,hext.keep,fun p h=>hext.fresh p (Zz _ h),hext.env⟩,.inl ⟨r',v,rfl,hq,hv'.mono (fun _ _=>rfl) (fun _ h=>h) fun b _ ho=>⟨fun h=>ho (.inl ?_),rfl⟩⟩⟩;exact h
 ·exact⟨m',n',ρ',hn,hm',hext,.inr ⟨x,rfl,hq⟩⟩
def XA:List (Nat × List AV × AV)->Nat->List AV->(AV->Prop)->Prop->Prop
 | [],_,_,_,N=>N
 | (G,as',r)::t,F,args,K,N=>match Nat.beq G F with
  | true=>match rY args as' with
   | true=>K r
   | false=>XA t F args K N
  | false=>XA t F args K N
def gA(P:Program)(Γ:List (Nat × AV))(tb:List (Nat × List AV × AV)):Prop:=∀e∈tb,aT P Γ e.1 e.2.1 e.2.2/\kI e.2.1/\NN e.2.2
theorem P6{P:Program}{Γ:List (Nat × AV)}(hΓ:∀p∈Γ,NN p.2){F:Nat}{args:List AV}{mem:aQ}{nx:Nat}{K:AV->aQ->Nat->Prop}{N:Prop}:∀{tb:List (Nat × List AV × AV)},gA P Γ tb->XA tb F args (fun r=>K r mem nx) N->N∨aF P Γ F args mem nx K
 | [],_,h=>.inl h
 | (G,as',r)::t,ht,h=>by
  have h2:gA P Γ t:=fun e he=>ht e (Yx _ he)
  simp only[XA] at h;split at h
  ·rename_i hG;split at h
   ·rename_i he;have e1:=Nat.eq_of_beq_eq_true hG;have e2:=mX he;subst e1 e2;obtain⟨g1,g2,g3⟩:=ht _ (Y7 ..);exact .inr (g1.use hΓ g2 g3 h)
   ·exact P6 hΓ h2 h
  ·exact P6 hΓ h2 h
def pA(P:Program)(Γ:List (Nat × AV))(tb:List (Nat × List AV × AV))(dl pl:List Nat):Nat->Hk
 | 0=>{ call:=fun _ _ _ _ _ _=>False,loop:=fun _ _ _=>False }
 | n+1=>{
   call:=fun F args mem nx K Kp=>XA tb F args (fun r=>K r mem nx) (match Nat.beq F YF with
    | false=>match P.funcs[F]? with
     | some fn=>match fn.body with
      | some c=>match RW F dl with
       | false=>match RW F pl with
        | false=>wI fn.ntmps args mem nx fun s=>BM true P Γ (pA P Γ tb dl pl n) c s (IN P fn.results.toList K Kp)
        | true=>wI fn.ntmps args mem nx fun s=>BM true P Γ (pA P Γ tb dl pl n) c s (IN P fn.results.toList (YR nx K) Kp)
       | true=>wI fn.ntmps args mem nx fun s=>JZ true P Γ (pA P Γ tb dl pl n) c s (Lh P Γ (pA P Γ tb dl pl n) fn.results.toList K Kp)
      | none=>False
     | none=>False
    | true=>False)
   loop:=fun c s Q=>BM true P Γ (pA P Γ tb dl pl n) c s fun e s'=>match e with
    | .normal=>(pA P Γ tb dl pl n).loop c s' Q
    | e=>Q e s' }
theorem HI(P:Program)(Γ:List (Nat × AV))(hΓ:∀p∈Γ,NN p.2){tb:List (Nat × List AV × AV)}(ht:gA P Γ tb)(dl pl:List Nat):∀n B,AA P Γ B (pA P Γ tb dl pl n) /\
  ∀c s Q,(pA P Γ tb dl pl n).loop c s Q->∀rd X ds D ρ a w,(∀i,D i->i<B)->SR Γ X ds ρ (dn D B s.nx) s a w->B<=s.nx->BQ rd ds c ->
   Code.roundsIn (FW rd) 0 P c (fun e a' w'=>∃(s':St) (ρ':Nat->dG),Q e s'/\B<=s'.nx/\SR Γ X ds ρ' (dn D B s'.nx) s' a' w'/\Ext D ρ s.mem w ρ' (dn D B s'.nx) s'.mem w') n a w:=by
 intro n
 induction n with
 | zero=>exact fun B=>⟨⟨fun _ _ _ _ _ _ h=>h.elim,fun _ _ _ h=>h.elim⟩,fun _ _ _ h=>h.elim⟩
 | succ n ih=>
  intro B;have hr:∀c s Q,(pA P Γ tb dl pl (n+1)).loop c s Q->∀rd X ds D ρ a w,(∀i,D i->i<B)->SR Γ X ds ρ (dn D B s.nx) s a w->B<=s.nx->BQ rd ds c ->
    Code.roundsIn (FW rd) 0 P c (fun e a' w'=>∃(s':St) (ρ':Nat->dG),Q e s'/\B<=s'.nx/\SR Γ X ds ρ' (dn D B s'.nx) s' a' w'/\Ext D ρ s.mem w ρ' (dn D B s'.nx) s'.mem w') (n+1) a w:=by
   intro c s Q h rd X ds D ρ a w hD hs hB hno;have h':=(eB (ih B).1 c s _ h).run rd X ds D ρ a w hD hs hB hno;rw[roundsIn_succ];refine wpIn_mono h' ?_;rintro e a1 w1 ⟨s1,ρ1,hq,hB1,hs1,hext⟩;cases e with
   | normal=>
    have key:=(ih B).2 c s1 Q hq rd X ds D ρ1 a1 w1 hD hs1 hB1 hno;refine vL n a1 w1 _ _ ?_ key;rintro e a2 w2 ⟨s2,ρ2,h1,h2,h3,h4⟩;exact⟨s2,ρ2,h1,h2,h3,hext.trans h4⟩
   | exit id=>exact⟨s1,ρ1,hq,hB1,hs1,hext⟩
   | goto l=>exact⟨s1,ρ1,hq,hB1,hs1,hext⟩
   | ret=>exact⟨s1,ρ1,hq,hB1,hs1,hext⟩
   | panic ch=>exact⟨s1,ρ1,hq,hB1,hs1,hext⟩
   | outgrown=>exact⟨s1,ρ1,hq,hB1,hs1,hext⟩
  refine⟨⟨fun F args mem nx K Kp h=>?_,fun c s Q h=>⟨fun rd X ds D ρ a w hD hs hB hno=>wpIn_loop_rounds (n+1) (hr c s Q h rd X ds D ρ a w hD hs hB hno.loop)⟩⟩,hr⟩;simp only[pA] at h;rcases P6 (K:=K) hΓ ht h with h'|h'
  rotate_left
  ·exact h'.toP
  clear h;have h:=h';clear h';split at h
  ·rename_i hF;split at h
   ·rename_i fn hf;split at h
    ·rename_i c hc;split at h
     ·split at h
      ·exact qU hf hc ((eB (ih nx).1 _ _ _ (l6 h)).mono fun _ _ h=>HJ h) hF
      ·exact QU hΓ (qU hf hc ((eB (ih nx).1 _ _ _ (l6 h)).mono fun _ _ h=>HJ h) hF)
     ·exact uP hf hc (D4 (fun B=>(ih B).1) nx _ _ _ (l6 h)) hF
    ·exact h.elim
   ·exact h.elim
  ·exact h.elim
theorem E6{P:Program}{Γ:List (Nat × AV)}(hΓ:∀p∈Γ,NN p.2){tb:List (Nat × List AV × AV)}(ht:gA P Γ tb){F:FuncId}{args:List AV}{mem:aQ}{nx:Nat}{Q:AV->aQ->Nat->Prop}(dl pl:List Nat)(n:Nat)(h:(pA P Γ tb dl pl n).call F args mem nx Q fun _ _ _=>False):aF P Γ F args mem nx Q:=
 ((HI P Γ hΓ ht dl pl n nx).1.call F args mem nx Q _ h).toC fun _ _ _ h=>h
theorem c7{P:Program}{Γ:List (Nat × AV)}{F:FuncId}{args:List AV}{mem:aQ}{nx:Nat}{want:AV}(hΓ:∀p∈Γ,NN p.2){tb:List (Nat × List AV × AV)}(ht:gA P Γ tb)(dl pl:List Nat)(n:Nat)
  (hc:(n9 (RG mem) && (oD mem && (wJ nx nx (RG mem) && Nat.ble nx nx)))=true)
  (h:((pA P Γ tb dl pl n).call F args mem nx (fun r m _=>XW mem want r m) fun _ _ _=>False)=True):aF P Γ F args mem nx fun r m k=>r=want/\m=mem/\k=nx:=by
 refine aF.turn hΓ ((E6 hΓ ht dl pl n (by rw[h];trivial)).mono fun r m k hk=>?_);unfold XW at hk;split at hk
 ·rename_i hb;unfold X2 at hb;split at hb
  ·rename_i v hv;split at hb
   ·rename_i he;have e:=xE he;subst e;have hn:(mem.map (·.1)).Nodup:=by
     simp only[Yk] at hc;exact fY hc.2.1
    exact bF (RG mem) hc (wX _ hb (Lr hn)) (oE 30 r v hv).cv ⟨rfl,rfl,rfl⟩
   ·cases hb
  ·cases hb
 ·exact hk.elim
theorem gA.nil{P:Program}{Γ:List (Nat × AV)}:gA P Γ []:=fun e h=>by cases h
theorem gA.cons{P:Program}{Γ:List (Nat × AV)}{F:Nat}{xs:List AV}{r:AV}{t:List (Nat × List AV × AV)}(h:aT P Γ F xs r)(h1:Bz (frz 30 [] []) xs=some xs)(h2:frz 30 [] [] r=some r)(ht:gA P Γ t):gA P Γ ((F,xs,r)::t):=by
 intro e he;rcases Yr.1 he with rfl|he
 ·obtain⟨g1,g2⟩:=lN (m:=[]) (σ:=[]) (oE 30) h1;exact⟨h,xD g1 g2,(oE (m:=[]) (σ:=[]) 30 r r h2).nn⟩
 ·exact ht e he
end Go.Ax
