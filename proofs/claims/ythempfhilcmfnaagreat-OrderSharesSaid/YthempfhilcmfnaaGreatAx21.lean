/- A part of the proof. -/
import Derived.Test.YthempfhilcmfnaaGreatAx20
import Derived.Test.YthempfhilcmfnaaGreatProg
set_option linter.unusedVariables false
set_option linter.unusedSimpArgs false
namespace Go.Proofs.YthempfhilcmfnaaGreat
open Go Go.Ax Go.Proofs Tryz
set_option maxRecDepth 100000
set_option maxHeartbeats 16000000
def l8:List (List UInt8):=[[45,49],[48],[50],[48,50],[45,48],[97],[57,50,50,51,51,55,50,48,51,54,56,53,52,55,55,53,56,48,56],[]]
def LB:List (List UInt8):=[120]::(l8++vV)
theorem ED{s:List UInt8}(h:s∈LB):s.length<=19:=by
 simp only[LB,l8,vV,Sr,SY,Rz,UR,or_false] at h;rcases h with rfl|rfl|rfl|rfl|rfl|rfl|rfl|rfl|rfl|rfl|rfl|rfl|rfl<;>simp
set_option maxHeartbeats 16000000
theorem IA:∀s∈vV,s∈LB:=fun s hs=>by unfold LB;exact SE _ (TK _ hs)
theorem Qn(l:List Int)(hl:∀x∈l,i64 x){Γ:List (Nat × AV)}{mem:aS}{nx:Nat}{K:AV->aS->Nat->Prop}(hk:∀ns:List Nd,gY ns->ns.length<=14->K (.agg [.il 12 (aR ns)]) mem nx):aM prog Γ 40 [.il 1 (aI l)] mem nx K:=by
 refine aM.goG0 (Pw l hl) ?_;rintro r m n ⟨ns,hT,hlen,rfl,rfl,rfl⟩;exact⟨.agg [.il 12 (aR ns)],.agg' (.cons (.fz' (id:=0) rfl rfl (by rw[bD];omega) (by rw[SS];exact SA (by rw[bD];omega)) (aQ _)) .nil),hk ns hT hlen⟩
theorem MW{mem:aS}{σ:List (Nat × Nat)}{xs ys:List AV}{i:Nat}{x y:AV}(hs:pS mem σ xs ys)(h:Da mem σ x y):pS mem σ (xs.set i x) (ys.set i y):=by
 refine⟨by simp;exact hs.1,fun j a b ha hb=>?_⟩;rw[TA] at ha hb;split at ha
 ·rename_i e;rw[Rx e] at hb;split at ha
  ·split at hb
   ·cases ha;cases hb;exact h
   ·cases hb
  ·cases ha
 ·rename_i e;rw[Rp e] at hb;exact hs.2 j a b ha hb
theorem qL{mem:aS}{X:Nd}{a b:AV}(j:Nat)(h:Cv mem [] a b):Da mem [] (.agg ((bU X).cells.set j a)) (.agg ((bU X).cells.set j b)):=by
 refine Da.agg ⟨by simp,fun i c c' h1 h2=>?_⟩;rw[TA] at h1 h2;split at h1
 ·rename_i e;rw[Rx e] at h2;split at h1
  ·rename_i e2;rw[Rx e2] at h2;cases h1;cases h2;exact h
  ·cases h1
 ·rename_i e;rw[Rp e] at h2;rw[h1] at h2;cases h2;exact(iL.same (aW X).cells).2 i c c h1 h1
theorem Bb{mem:aS}{id len:Nat}{t:TypeId}{sz:Nat}{xs ys:List AV}(h1:lk mem id=some (.row t sz xs))(e:len=xs.length)(h:xs=ys)(h5:g9 ys):Cv mem [] (.sl id 0 len) (.il sz ys):=by
 subst h e;exact .fz' (id:=id) h1 rfl (by omega) (by rw[SS];exact SA (by omega)) h5
theorem FV{l:List Int}{n:Int}(h:∀w∈l,i64 w)(hn:i64 n):∀w∈l.set 0 n,i64 w:=fun w hw=>by
 rcases TT hw with hw|rfl
 ·exact h w hw
 ·exact hn
theorem Lk{vs:List bB}{v:bB}(h:(∀v∈vs,iA v/\bH v<=4294967296)/\∀v∈vs,bH v<=1048576)(hv:iA v/\bH v<=1048576):∀w∈vs++[v],iA w/\bH w<=1048576:=fun w hw=>by
 rcases R5.1 hw with hw|hw
 ·exact⟨(h.1 w hw).1,h.2 w hw⟩
 ·simp at hw;rw[hw];exact hv
theorem g0(l:List Int)(h:¬l.length=0):([]++aI l)[0+Int.toNat 0]? = some (.int .i64 (l[0]'(by omega))):=by
 rw[SY,bG]
 show (l[0]?).map _=_
 rw[Rm (by omega)];rfl
theorem KW{ls:List (List UInt8)}(h:∀s∈ls,s∈LB):∀s∈ls++[[120]],s∈LB:=fun s hs=>by
 rcases R5.1 hs with hs|hs
 ·exact h s hs
 ·simp at hs;rw[hs];unfold LB;simp
theorem IH(k n:Int)(hk:i64 k)(hn:i64 n):iA (.mk k n [] [])/\bH (.mk k n [] [])<=1048576:=⟨jJ hk hn (by simp) (by simp) (by simp[yZ]),by simp[bH,cQ]⟩
theorem Ks(A:List Nd)(at_ how n:Int)(hA:∀x∈A,PF x)(hl:A.length<=14)(ha:i64 at_)(hh:i64 how)(hn:i64 n):aM prog [] 35 [.agg [.il 12 (aR A)],.int .i64 at_,.int .i64 how,.int .i64 n] [] 0 fun r m k=>∃ns:List Nd,(∀x∈ns,wF LB x)/\ns.length<=14/\(ns=[]∨∃i x y,A[i]? = some x/\Pf x y/\ns=A.set i y)/\r = .agg [.il 12 (aR ns)]/\m=[]/\k=0:=by
 have hS:∀x∈A,wF LB x:=fun x hx=>Hy IA (hA x hx)
 have hlb:∀s∈LB,s.length<=19:=fun s hs=>ED hs
 refine aL bC func35 rfl ?_;((conv=>whnf);repeat(refine Xg ?_;conv=>whnf));rw[bD];refine aK (w9 rfl (by omega)) ?_;((conv=>whnf);repeat(refine Xg ?_;conv=>whnf));by_cases h0:A.length=0
 ·rw[show ((A.length:Int) == 0)=true by rw[h0];rfl];((conv=>whnf);repeat(refine Xg ?_;conv=>whnf));exact bF (r':=.agg [.il 12 (aR [])]) (.agg' (.cons (.fz' (id:=3) (t:=62) (xs:=aR A) rfl rfl (by rw[bD];omega) (by rw[h0];rfl) .nil) .nil)) ⟨[],by simp,by simp,.inl rfl,rfl,rfl,rfl⟩
 ·rw[show ((A.length:Int) == 0)=false by simp;intro h;exact h0 (by rw[h];rfl)];have hAr:=tT at_ A.length ha (by omega);obtain⟨b0,b1⟩:=iD (n:=at_) (most:=(A.length:Int)) (by omega);have hHo:=tT how 10 hh (by omega);obtain⟨c0,c1⟩:=iD (n:=how) (most:=10) (by omega);generalize jM at_ A.length=i at hAr b0 b1;generalize jM how 10=c at hHo c0 c1;obtain⟨i,rfl⟩:=R7 b0;have hil:i<A.length:=by omega
  obtain⟨x,hx1,hx2,ex,bx⟩:=rP (l:=A) (k:=i) (n:=A.length) hil rfl;have hX:=hS x (R3 hx1);have hG:=hA x (R3 hx1);have hset:∀y:Nd,aR (A.set i y)=(aR A).set i (bU y):=fun y=>by unfold aR;rw[Ti]
  have hfin:∀y:Nd,wF LB y->∀(mem:aS) (nx:Nat) (e:AV),lk mem 3=some (.row 62 12 ((aR A).set (0+((i:Nat):Int).toNat) e))->Da mem [] e (bU y)->Pf x y ->
    lE 0 (fun r m k=>∃ns:List Nd,(∀x∈ns,wF LB x)/\ns.length<=14/\(ns=[]∨∃i x y,A[i]? = some x/\Pf x y/\ns=A.set i y)/\r = .agg [.il 12 (aR ns)]/\m=[]/\k=0) (.agg [.sl 3 0 A.length]) mem nx:=fun y hy mem nx e h3 he hk=>by
   refine bF (r':=.agg [.il 12 (aR (A.set i y))]) (.agg' (.cons (.fzR (id:=3) h3 rfl ?_ (by rw[bD];simp)) .nil)) ⟨A.set i y,Oe hS hy,by simpa using hl,.inr ⟨i,x,y,hx1,hk,rfl⟩,rfl,rfl,rfl⟩;rw[hset,show 0+((i:Nat):Int).toNat=i by simp];exact MW (.same (aQ _)) he
  obtain⟨kind,name,lo,hi',ws,lbs,vals,kids,⟨vk,vn,vs,vks⟩⟩:=x;clear hA hS ha hh;((conv=>whnf);repeat(refine Xg ?_;conv=>whnf));refine hAr.go ?_;((conv=>whnf);repeat(refine Xg ?_;conv=>whnf));repeat((first|refine aK bx ?_|refine aC ex ?_);(conv=>whnf);repeat(refine Xg ?_;conv=>whnf))
  refine hHo.go ?_;have hw0:=hG.wlen;obtain⟨hw1,hw2⟩:=And.intro hG.vlen hG.klen;have hw3:=hG.llen;simp only at hw0 hw1 hw2 hw3;rcases(show c=0∨c=1∨c=2∨c=3∨c=4∨c=5∨c=6∨c=7∨c=8∨c=9 by omega) with rfl|rfl|rfl|rfl|rfl|rfl|rfl|rfl|rfl|rfl
  ·((conv=>whnf);repeat(refine Xg ?_;conv=>whnf));repeat((first|refine aK bx ?_|refine aC ex ?_|refine aB.2 ?_);(conv=>whnf);repeat(refine Xg ?_;conv=>whnf))
   exact hfin ⟨n,name,lo,hi',ws,lbs,vals,kids,⟨vk,vn,vs,vks⟩⟩ (MI hX hn) _ _ (bU ⟨n,name,lo,hi',ws,lbs,vals,kids,⟨vk,vn,vs,vks⟩⟩) rfl (.same (aW _)) (by first|exact .inl ⟨rfl,by simp⟩|exact .inr ⟨rfl,rfl,rfl⟩)
  ·((conv=>whnf);repeat(refine Xg ?_;conv=>whnf));repeat((first|refine aK bx ?_|refine aC ex ?_|refine aB.2 ?_);(conv=>whnf);repeat(refine Xg ?_;conv=>whnf))
   exact hfin ⟨kind,name,n,hi',ws,lbs,vals,kids,⟨vk,vn,vs,vks⟩⟩ (Qe hX hn) _ _ (bU ⟨kind,name,n,hi',ws,lbs,vals,kids,⟨vk,vn,vs,vks⟩⟩) rfl (.same (aW _)) (by first|exact .inl ⟨rfl,by simp⟩|exact .inr ⟨rfl,rfl,rfl⟩)
  ·((conv=>whnf);repeat(refine Xg ?_;conv=>whnf));repeat((first|refine aK bx ?_|refine aC ex ?_|refine aB.2 ?_);(conv=>whnf);repeat(refine Xg ?_;conv=>whnf))
   exact hfin ⟨kind,name,lo,n,ws,lbs,vals,kids,⟨vk,vn,vs,vks⟩⟩ (QP hX hn) _ _ (bU ⟨kind,name,lo,n,ws,lbs,vals,kids,⟨vk,vn,vs,vks⟩⟩) rfl (.same (aW _)) (by first|exact .inl ⟨rfl,by simp⟩|exact .inr ⟨rfl,rfl,rfl⟩)
  ·((conv=>whnf);repeat(refine Xg ?_;conv=>whnf));repeat((first|refine aK bx ?_|refine aC ex ?_|refine aB.2 ?_);(conv=>whnf);repeat(refine Xg ?_;conv=>whnf))
   refine aK (bP rfl rfl rfl (by simp only[aE,Ro,Sw];omega)) ?_;((conv=>whnf);repeat(refine Xg ?_;conv=>whnf));refine aK (bP rfl rfl (by simp) (by simp[aE];omega)) ?_;((conv=>whnf);repeat(refine Xg ?_;conv=>whnf));repeat((first|refine aK bx ?_|refine aC ex ?_|refine aB.2 ?_);(conv=>whnf);repeat(refine Xg ?_;conv=>whnf))
   refine hfin ⟨kind,name,lo,hi',ws++[n],lbs,vals,kids,⟨vk,vn,vs,vks⟩⟩ (Bq hX (by simp;omega) (H0 hX.ok.weightsI hn)) _ _ (.agg ((bU ⟨kind,name,lo,hi',ws,lbs,vals,kids,⟨vk,vn,vs,vks⟩⟩).cells.set 4 (.sl 8 0 _))) rfl (qL 4 (Bb (id:=8) (t:=3) (xs:=[]++aI ws++[.int .i64 n]) rfl (by simp) (by simp[aI]) (aG _))) (by first|exact .inl ⟨rfl,by simp⟩|exact .inr ⟨rfl,rfl,rfl⟩)
  ·((conv=>whnf);repeat(refine Xg ?_;conv=>whnf));repeat((first|refine aK bx ?_|refine aC ex ?_|refine aB.2 ?_);(conv=>whnf);repeat(refine Xg ?_;conv=>whnf))
   refine aK (bP rfl rfl rfl (by simp only[aE,Ro,Sw];omega)) ?_;((conv=>whnf);repeat(refine Xg ?_;conv=>whnf));refine aK (bP rfl rfl (by simp) (by simp[aE];omega)) ?_;((conv=>whnf);repeat(refine Xg ?_;conv=>whnf));repeat((first|refine aK bx ?_|refine aC ex ?_|refine aB.2 ?_);(conv=>whnf);repeat(refine Xg ?_;conv=>whnf))
   refine hfin ⟨kind,name,lo,hi',ws,lbs,vals,kids++[n],⟨vk,vn,vs,vks⟩⟩ (Ib hX (by simp;omega) (H0 hX.ok.kidsI hn)) _ _ (.agg ((bU ⟨kind,name,lo,hi',ws,lbs,vals,kids,⟨vk,vn,vs,vks⟩⟩).cells.set 7 (.sl 8 0 _))) rfl (qL 7 (Bb (id:=8) (t:=3) (xs:=[]++aI kids++[.int .i64 n]) rfl (by simp) (by simp[aI]) (aG _))) (by first|exact .inl ⟨rfl,by simp⟩|exact .inr ⟨rfl,rfl,rfl⟩)
  ·((conv=>whnf);repeat(refine Xg ?_;conv=>whnf));obtain⟨d0,d1⟩:=iD (n:=n) (most:=6) (by omega);have hNa:=tT n 6 hn (by omega);generalize jM n 6=k at hNa d0 d1;refine hNa.go ?_;rcases(show k=0∨k=1∨k=2∨k=3∨k=4∨k=5 by omega) with rfl|rfl|rfl|rfl|rfl|rfl
   ·((conv=>whnf);repeat(refine Xg ?_;conv=>whnf));repeat((first|refine aK bx ?_|refine aC ex ?_|refine aB.2 ?_);(conv=>whnf);repeat(refine Xg ?_;conv=>whnf))
    exact hfin ⟨kind,[],lo,hi',ws,lbs,vals,kids,⟨vk,vn,vs,vks⟩⟩ (uA hX (by simp)) _ _ (bU ⟨kind,[],lo,hi',ws,lbs,vals,kids,⟨vk,vn,vs,vks⟩⟩) rfl (.same (aW _)) (by first|exact .inl ⟨rfl,by simp⟩|exact .inr ⟨rfl,rfl,rfl⟩)
   ·((conv=>whnf);repeat(refine Xg ?_;conv=>whnf));repeat((first|refine aK bx ?_|refine aC ex ?_|refine aB.2 ?_);(conv=>whnf);repeat(refine Xg ?_;conv=>whnf))
    exact hfin ⟨kind,[80,97,105,114],lo,hi',ws,lbs,vals,kids,⟨vk,vn,vs,vks⟩⟩ (uA hX (by simp)) _ _ (bU ⟨kind,[80,97,105,114],lo,hi',ws,lbs,vals,kids,⟨vk,vn,vs,vks⟩⟩) rfl (.same (aW _)) (by first|exact .inl ⟨rfl,by simp⟩|exact .inr ⟨rfl,rfl,rfl⟩)
   ·((conv=>whnf);repeat(refine Xg ?_;conv=>whnf));repeat((first|refine aK bx ?_|refine aC ex ?_|refine aB.2 ?_);(conv=>whnf);repeat(refine Xg ?_;conv=>whnf))
    exact hfin ⟨kind,[112,97,105,114],lo,hi',ws,lbs,vals,kids,⟨vk,vn,vs,vks⟩⟩ (uA hX (by simp)) _ _ (bU ⟨kind,[112,97,105,114],lo,hi',ws,lbs,vals,kids,⟨vk,vn,vs,vks⟩⟩) rfl (.same (aW _)) (by first|exact .inl ⟨rfl,by simp⟩|exact .inr ⟨rfl,rfl,rfl⟩)
   ·((conv=>whnf);repeat(refine Xg ?_;conv=>whnf));repeat((first|refine aK bx ?_|refine aC ex ?_|refine aB.2 ?_);(conv=>whnf);repeat(refine Xg ?_;conv=>whnf))
    exact hfin ⟨kind,[65,98,95,49],lo,hi',ws,lbs,vals,kids,⟨vk,vn,vs,vks⟩⟩ (uA hX (by simp)) _ _ (bU ⟨kind,[65,98,95,49],lo,hi',ws,lbs,vals,kids,⟨vk,vn,vs,vks⟩⟩) rfl (.same (aW _)) (by first|exact .inl ⟨rfl,by simp⟩|exact .inr ⟨rfl,rfl,rfl⟩)
   ·((conv=>whnf);repeat(refine Xg ?_;conv=>whnf));repeat((first|refine aK bx ?_|refine aC ex ?_|refine aB.2 ?_);(conv=>whnf);repeat(refine Xg ?_;conv=>whnf))
    exact hfin ⟨kind,[76,111,110,103,76,111,110,103,76,111,110,103,76,111,110,103,76],lo,hi',ws,lbs,vals,kids,⟨vk,vn,vs,vks⟩⟩ (uA hX (by simp)) _ _ (bU ⟨kind,[76,111,110,103,76,111,110,103,76,111,110,103,76,111,110,103,76],lo,hi',ws,lbs,vals,kids,⟨vk,vn,vs,vks⟩⟩) rfl (.same (aW _)) (by first|exact .inl ⟨rfl,by simp⟩|exact .inr ⟨rfl,rfl,rfl⟩)
   ·((conv=>whnf);repeat(refine Xg ?_;conv=>whnf));repeat((first|refine aK bx ?_|refine aC ex ?_|refine aB.2 ?_);(conv=>whnf);repeat(refine Xg ?_;conv=>whnf))
    exact hfin ⟨kind,[65,45,98],lo,hi',ws,lbs,vals,kids,⟨vk,vn,vs,vks⟩⟩ (uA hX (by simp)) _ _ (bU ⟨kind,[65,45,98],lo,hi',ws,lbs,vals,kids,⟨vk,vn,vs,vks⟩⟩) rfl (.same (aW _)) (by first|exact .inl ⟨rfl,by simp⟩|exact .inr ⟨rfl,rfl,rfl⟩)
  ·((conv=>whnf);repeat(refine Xg ?_;conv=>whnf));repeat((first|refine aK bx ?_|refine aC ex ?_|refine aB.2 ?_);(conv=>whnf);repeat(refine Xg ?_;conv=>whnf))
   refine aK (bP rfl rfl rfl (by simp only[bX,Ro,Sw];omega)) ?_;((conv=>whnf);repeat(refine Xg ?_;conv=>whnf));refine aK (bP rfl rfl (by simp) (by simp[bX];omega)) ?_;((conv=>whnf);repeat(refine Xg ?_;conv=>whnf));repeat((first|refine aK bx ?_|refine aC ex ?_|refine aB.2 ?_);(conv=>whnf);repeat(refine Xg ?_;conv=>whnf))
   refine hfin ⟨kind,name,lo,hi',ws,lbs++[[120]],vals,kids,⟨vk,vn,vs,vks⟩⟩ (JL hX (by simp;omega) (KW hX.lab) hlb) _ _ (.agg ((bU ⟨kind,name,lo,hi',ws,lbs,vals,kids,⟨vk,vn,vs,vks⟩⟩).cells.set 5 (.sl 8 0 _))) rfl (qL 5 (Bb (id:=8) (t:=9) (xs:=[]++CF lbs++[.str [120]]) rfl (by simp) (by simp[CF]) (Ae _))) (by first|exact .inl ⟨rfl,by simp⟩|exact .inr ⟨rfl,rfl,rfl⟩)
  ·((conv=>whnf);repeat(refine Xg ?_;conv=>whnf));repeat((first|refine aK bx ?_|refine aC ex ?_|refine aB.2 ?_);(conv=>whnf);repeat(refine Xg ?_;conv=>whnf))
   refine aK (bP rfl rfl rfl (by simp only[aF,Ro,Sw];omega)) ?_;((conv=>whnf);repeat(refine Xg ?_;conv=>whnf));refine aK (bP rfl rfl (by simp) (by simp[aF];omega)) ?_;((conv=>whnf);repeat(refine Xg ?_;conv=>whnf));repeat((first|refine aK bx ?_|refine aC ex ?_|refine aB.2 ?_);(conv=>whnf);repeat(refine Xg ?_;conv=>whnf))
   refine hfin ⟨kind,name,lo,hi',ws,lbs,vals++[.mk 0 n [] []],kids,⟨vk,vn,vs,vks⟩⟩ (JU hX (by simp;omega) (Lk ⟨hX.ok.valuesI,hX.vals⟩ (IH 0 n ⟨by decide,by decide⟩ hn))) _ _ (.agg ((bU ⟨kind,name,lo,hi',ws,lbs,vals,kids,⟨vk,vn,vs,vks⟩⟩).cells.set 6 (.sl 8 0 _))) rfl (qL 6 (.fzR (id:=8) (t:=60) (xs:=[]++aT vals++[.agg [.int .i64 0,.int .i64 n,.str [],.nsl]]) rfl rfl ?_ (by simp[aF]))) (by first|exact .inl ⟨rfl,by simp⟩|exact .inr ⟨rfl,rfl,rfl⟩)
   show pS _ _ _ (aT (vals++[.mk 0 n [] []]))
   rw[eR];exact .snoc (by simp) (.same (aV _)) (sX _ _ _)
  ·((conv=>whnf);repeat(refine Xg ?_;conv=>whnf));obtain⟨d0,d1⟩:=iD (n:=n) (most:=5) (by omega);have hNa:=tT n 5 hn (by omega);generalize jM n 5=k at hNa d0 d1;refine hNa.go ?_;((conv=>whnf);repeat(refine Xg ?_;conv=>whnf));repeat((first|refine aK bx ?_|refine aC ex ?_|refine aB.2 ?_);(conv=>whnf);repeat(refine Xg ?_;conv=>whnf))
   obtain⟨q1,q2⟩:=IH k n (by constructor<;>omega) hn;exact hfin ⟨kind,name,lo,hi',ws,lbs,vals,kids,⟨k,n,[],[]⟩⟩ (Kz hX q1 q2) _ _ (.agg ((bU ⟨kind,name,lo,hi',ws,lbs,vals,kids,⟨k,n,[],[]⟩⟩).cells.set 11 .nsl)) rfl (qL 11 (.nil 4)) (by first|exact .inl ⟨rfl,by simp⟩|exact .inr ⟨rfl,rfl,rfl⟩)
  ·((conv=>whnf);repeat(refine Xg ?_;conv=>whnf));by_cases hw:ws.length=0
   ·rw[show decide (((aI ws).length:Int)>0)=false by rw[aE,TD];omega];((conv=>whnf);repeat(refine Xg ?_;conv=>whnf));by_cases hk:kids.length=0
    ·rw[show decide (((aI kids).length:Int)>0)=false by rw[aE,TD];omega];((conv=>whnf);repeat(refine Xg ?_;conv=>whnf));repeat((first|refine aK bx ?_|refine aC ex ?_|refine aB.2 ?_);(conv=>whnf);repeat(refine Xg ?_;conv=>whnf))
     exact hfin ⟨kind,name,lo,hi',ws,lbs,vals,kids,⟨vk,vn,vs,vks⟩⟩ hX _ _ (bU ⟨kind,name,lo,hi',ws,lbs,vals,kids,⟨vk,vn,vs,vks⟩⟩) rfl (.same (aW _)) (by first|exact .inl ⟨rfl,by simp⟩|exact .inr ⟨rfl,rfl,rfl⟩)
    ·rw[show decide (((aI kids).length:Int)>0)=true by rw[aE];simp;omega];((conv=>whnf);repeat(refine Xg ?_;conv=>whnf));refine aK (bP rfl rfl rfl (by simp only[aE,Ro,Sw];omega)) ?_;((conv=>whnf);repeat(refine Xg ?_;conv=>whnf));refine aK (Ru (by simp[aE];omega)) ?_;((conv=>whnf);repeat(refine Xg ?_;conv=>whnf));have hg:=g0 kids hk;generalize kids[0]'_=o at hg;refine aC hg ?_;((conv=>whnf);repeat(refine Xg ?_;conv=>whnf));repeat((first|refine aK bx ?_|refine aC ex ?_|refine aC hg ?_|refine aB.2 ?_);(conv=>whnf);repeat(refine Xg ?_;conv=>whnf))
     refine hfin ⟨kind,name,lo,hi',ws,lbs,vals,kids.set 0 n,⟨vk,vn,vs,vks⟩⟩ (Ib hX (by simp;omega) (FV hX.ok.kidsI hn)) _ _ (.agg ((bU ⟨kind,name,lo,hi',ws,lbs,vals,kids,⟨vk,vn,vs,vks⟩⟩).cells.set 7 (.sl 6 0 _))) rfl (qL 7 (Bb (id:=6) (t:=3) (xs:=([]++aI kids).set (0+(0:Int).toNat) (.int .i64 n)) rfl (by simp) (by simp[aI]) (aG _))) (by first|exact .inl ⟨rfl,by simp⟩|exact .inr ⟨rfl,rfl,rfl⟩)
   ·rw[show decide (((aI ws).length:Int)>0)=true by rw[aE];simp;omega];((conv=>whnf);repeat(refine Xg ?_;conv=>whnf));refine aK (bP rfl rfl rfl (by simp only[aE,Ro,Sw];omega)) ?_;((conv=>whnf);repeat(refine Xg ?_;conv=>whnf));refine aK (Ru (by simp[aE];omega)) ?_;((conv=>whnf);repeat(refine Xg ?_;conv=>whnf));have hg:=g0 ws hw;generalize ws[0]'_=o at hg;refine aC hg ?_;((conv=>whnf);repeat(refine Xg ?_;conv=>whnf));repeat((first|refine aK bx ?_|refine aC ex ?_|refine aC hg ?_|refine aB.2 ?_);(conv=>whnf);repeat(refine Xg ?_;conv=>whnf))
    refine hfin ⟨kind,name,lo,hi',ws.set 0 n,lbs,vals,kids,⟨vk,vn,vs,vks⟩⟩ (Bq hX (by simp;omega) (FV hX.ok.weightsI hn)) _ _ (.agg ((bU ⟨kind,name,lo,hi',ws,lbs,vals,kids,⟨vk,vn,vs,vks⟩⟩).cells.set 4 (.sl 6 0 _))) rfl (qL 4 (Bb (id:=6) (t:=3) (xs:=([]++aI ws).set (0+(0:Int).toNat) (.int .i64 n)) rfl (by simp) (by simp[aI]) (aG _))) (by first|exact .inl ⟨rfl,by simp⟩|exact .inr ⟨rfl,rfl,rfl⟩)
set_option maxHeartbeats 16000000
def KT(m:Int):Nd:=⟨1,[],0,m,[],[],[],[],zV⟩
def Fr(k:Nat):Nd:=⟨3,[],0,0,[],[],[],List.replicate k 0,zV⟩
def lZ(n:Nat):List Int:=(List.range n).map fun k:Nat=>(k:Int)+1
def Cb(n:Nat):Nd:=⟨2,[],0,0,List.replicate n 1,[],[],lZ n,zV⟩
def yY(ks:List Int):Nd:=⟨3,[80,97,105,114],0,0,[],[],[],ks,zV⟩
def CY(m:Int)(n:Nat):List Nd:=KT m::(List.range n).map Fr
theorem L1(m:Int)(n:Nat):CY m (n+1)=CY m n++[Fr n]:=by simp[CY,T9]
theorem lQ(m:Int)(n:Nat):(CY m n).length=n+1:=by simp[CY]
theorem Fp(n:Nat):lZ (n+1)=lZ n++[(n:Int)+1]:=by simp[lZ,T9]
theorem jH(n:Nat):(lZ n).length=n:=by simp[lZ]
structure NS(ns:List Nd):Prop where
 sp:∀x∈ns,wF LB x
 len:ns.length<=9
 kids:∀x∈ns,x.kids.length<=6
 seq:∀x∈ns,x.kind=3->x.kids.length<=5
theorem EY{kind lo hi:Int}{name:List UInt8}{ws ks:List Int}(h1:i64 kind)(h2:name.length<=1000)(h3:i64 lo)(h4:i64 hi)(h5:ws.length<=1000)(h6:∀w∈ws,i64 w)(h7:ks.length<=1000)(h8:∀k∈ks,i64 k):wF LB ⟨kind,name,lo,hi,ws,[],[],ks,zV⟩:=
 ⟨⟨h1,by simp only;omega,h3,h4,by simp only;omega,h6,by simp,by simp,by simp,by simp,by simp only;omega,h8,gQ ⟨by omega,by omega⟩ ⟨by omega,by omega⟩,by simp[zV,bH,cQ]⟩,by simp[zV,bH,cQ],by simp,by simp,by simp only;omega,by simp,by simp⟩
theorem N4{m:Int}{n:Nat}(hm:i64 m)(hn:n<=6){xs:List Nd}(hx:xs=[]∨∃ks,xs=[yY ks]/\ks.length<=3/\∀k∈ks,i64 k):NS (CY m n++([Cb n]++xs)):=by
 have z0:i64 0:=⟨by omega,by omega⟩
 have hall:∀x∈CY m n++([Cb n]++xs),wF LB x/\x.kids.length<=6/\(x.kind=3->x.kids.length<=5):=fun x hx'=>by
  rcases R5.1 hx' with hx'|hx'
  ·unfold CY at hx';rcases Rz.1 hx' with rfl|hx'
   ·exact⟨EY ⟨by omega,by omega⟩ (by simp) z0 hm (by simp) (by simp) (by simp) (by simp),by simp[KT],by simp[KT]⟩
   ·obtain⟨k,hk,rfl⟩:=SJ.1 hx';have hk:=Tl.1 hk;refine⟨EY ⟨by omega,by omega⟩ (by simp) z0 z0 (by simp) (by simp) (by simp;omega) (fun w hw=>?_),by simp[Fr];omega,by simp[Fr];omega⟩;rw[TM hw];exact z0
  ·rcases R5.1 hx' with hx'|hx'
   ·rw[TP] at hx';subst hx';refine⟨EY ⟨by omega,by omega⟩ (by simp) z0 z0 (by simp;omega) (fun w hw=>?_) (by rw[jH];omega) (fun w hw=>?_),by simp only[Cb];rw[jH];omega,by simp[Cb]⟩
    ·rw[TM hw];exact⟨by omega,by omega⟩
    ·unfold lZ at hw;obtain⟨k,hk,rfl⟩:=SJ.1 hw;have hk:=Tl.1 hk;exact⟨by omega,by omega⟩
   ·rcases hx with rfl|⟨ks,rfl,h1,h2⟩
    ·cases hx'
    ·rw[TP] at hx';subst hx';exact⟨EY ⟨by omega,by omega⟩ (by simp) z0 z0 (by simp) (by simp) (by omega) h2,by simp only[yY];omega,by simp only[yY];omega⟩
 refine⟨fun x h=>(hall x h).1, ?_,fun x h=>(hall x h).2.1,fun x h=>(hall x h).2.2⟩;have hxl:xs.length<=1:=by rcases hx with rfl|⟨ks,rfl,-⟩<;>simp
 rw[Ro,Ro,lQ];simp;omega
theorem PW(l:List Int)(hl:∀x∈l,i64 x) :
    aM prog [] 41 [.il 1 (aI l)] [] 0 fun r m n=>∃ns:List Nd,NS ns/\r = .agg [.il 12 (aR ns)]/\m=[]/\n=0:=by
  have z0:i64 0:=⟨by omega,by omega⟩
  have hP0:=sT l 0 30 hl (by omega);have hP1:=sT l 1 5 hl (by omega);have hP2:=sT l 2 3 hl (by omega);have hP3:=sT l 3 2 hl (by omega);obtain⟨a0,a1⟩:=eG (l:=l) (i:=0) (most:=30) (by omega);obtain⟨b0,b1⟩:=eG (l:=l) (i:=1) (most:=5) (by omega);obtain⟨c0,c1⟩:=eG (l:=l) (i:=2) (most:=3) (by omega);obtain⟨d0,d1⟩:=eG (l:=l) (i:=3) (most:=2) (by omega);generalize gB l 0 30=a at *;generalize gB l 1 5=b at *;generalize gB l 2 3=c at *;generalize gB l 3 2=d at *;obtain⟨b,rfl⟩:=R7 b0;refine aL bC func41 rfl ?_;((conv=>whnf);repeat(refine Xg ?_;conv=>whnf));refine hP0.go ?_;have hwa:IntKind.i64.wrap (1+a)=1+a:=bY ⟨by omega,by omega⟩;have hwb:IntKind.i64.wrap (1+((b:Nat):Int))=((1+b:Nat):Int):=w64 (by omega) ⟨by omega,by omega⟩;((conv=>whnf);repeat(refine Xg ?_;conv=>whnf));rw[hwa];((conv=>whnf);repeat(refine Xg ?_;conv=>whnf));repeat((first|refine aB.2 ?_|refine aD ?_);(conv=>whnf);repeat(refine Xg ?_;conv=>whnf))
  refine a7.ph 3 1 ?_;refine a7.ph 3 1 ?_;refine a7.at bC (fun n:Nat=>n<=b+2)
    (fun n=>⟨[(0,.il 1 (aI l)),(2,.ptr 0 0 0),(3,.ptr 1 0 0),(4,.ptr 3 0 0),(5,.int .i64 n)],
      [(0,.row 44 1 [.agg [.nsl]]),(1,.row 44 1 [.agg [.sl 2 0 (n+1)]]),(2,.row 62 12 (aR (CY (1+a) n))),
       (3,.row 62 12 [.agg [.int .i64 2,.str [],.int .i64 0,.int .i64 0,.sl 4 0 n,.nsl,.nsl,.sl 5 0 n,.int .i64 0,.int .i64 0,.str [],.nsl]]),
       (4,.row 3 1 (aI (List.replicate n 1))),(5,.row 3 1 (aI (lZ n)))],6,81⟩) (fun n=>b+2-n) 0 [(0,0),(2,1),(1,2),(3,3),(4,4),(5,5)] (by omega)
    (aJ _ rfl ⟨⟨0,_,rfl,rfl,.same dD⟩,⟨2,_,rfl,rfl,.cons (.agg (.cons (.sl 1 2 0 _ rfl) .nil)) .nil⟩,⟨1,_,rfl,rfl,.cons (.agg (.s (.s (.s (.s (.cons (.nil 1) (.cons (.nil 1) (.cons (.nil 4) (.cons (.nil 1) (.s (.s (.s (.cons (.nil 4) .nil))))))))))))) .nil⟩,⟨3,_,rfl,rfl,.cons (.agg (.s (.s (.s (.s (.cons (.nslk 4 4 _ rfl rfl) (.s (.s (.cons (.nslk 5 5 _ rfl rfl) (.s (.s (.s (.s .nil))))))))))))) .nil⟩,⟨4,_,rfl,rfl,.nil⟩,⟨5,_,rfl,rfl,.nil⟩,trivial⟩
      ⟨⟨_,rfl,.same _ (.il' (aG l))⟩,⟨_,rfl,.ptr 0 0 0 0 rfl⟩,⟨_,rfl,.ptr 2 1 0 0 rfl⟩,⟨_,rfl,.ptr 3 3 0 0 rfl⟩,aH,trivial⟩) ?_
  intro n hn;((conv=>whnf);repeat(refine Xg ?_;conv=>whnf));refine hP1.go ?_;((conv=>whnf);repeat(refine Xg ?_;conv=>whnf));rw[hwb];have dn:decide ((n:Int)<=((1+b:Nat):Int))=decide (n<b+2):=SB.2 (by omega);by_cases hlt:n<b+2
  · rw[dn,Rs hlt]
    ((conv=>whnf);repeat(refine Xg ?_;conv=>whnf));repeat((first|refine aB.2 ?_|refine aD ?_);(conv=>whnf);repeat(refine Xg ?_;conv=>whnf))
    refine a7.ph 3 1 ?_;refine a7.at bC (fun k:Nat=>k<=n)
      (fun k=>⟨[(0,.il 1 (aI l)),(2,.ptr 0 0 0),(3,.ptr 1 0 0),(4,.ptr 3 0 0),(5,.int .i64 n),(6,.ptr 6 0 0),(7,.int .i64 k)],
        [(0,.row 44 1 [.agg [.nsl]]),(1,.row 44 1 [.agg [.sl 2 0 (n+1)]]),(2,.row 62 12 (aR (CY (1+a) n))),
         (3,.row 62 12 [.agg [.int .i64 2,.str [],.int .i64 0,.int .i64 0,.sl 4 0 n,.nsl,.nsl,.sl 5 0 n,.int .i64 0,.int .i64 0,.str [],.nsl]]),
         (4,.row 3 1 (aI (List.replicate n 1))),(5,.row 3 1 (aI (lZ n))),
         (6,.row 62 12 [.agg [.int .i64 3,.str [],.int .i64 0,.int .i64 0,.nsl,.nsl,.nsl,.sl 7 0 k,.int .i64 0,.int .i64 0,.str [],.nsl]]),
         (7,.row 3 1 (aI (List.replicate k 0)))],8,81⟩) (fun k=>n-k) 0 [(0,0),(1,1),(2,2),(3,3),(4,4),(5,5),(6,6),(7,7)] (by omega)
      (aJ _ rfl ⟨⟨0,_,rfl,rfl,.same dD⟩,⟨1,_,rfl,rfl,.cons (.agg (.cons (.sl 2 2 0 _ rfl) .nil)) .nil⟩,⟨2,_,rfl,rfl,.same (aQ _)⟩,⟨3,_,rfl,rfl,.cons (.agg (.s (.s (.s (.s (.cons (.sl 4 4 0 _ rfl) (.s (.s (.cons (.sl 5 5 0 _ rfl) (.s (.s (.s (.s .nil))))))))))))) .nil⟩,⟨4,_,rfl,rfl,.same (aG _)⟩,⟨5,_,rfl,rfl,.same (aG _)⟩,
          ⟨6,_,rfl,rfl,.cons (.agg (.s (.s (.s (.s (.s (.s (.s (.cons (.nslk 7 7 _ rfl rfl) (.s (.s (.s (.s .nil))))))))))))) .nil⟩,⟨7,_,rfl,rfl,.nil⟩,trivial⟩
        ⟨⟨_,rfl,.same _ (.il' (aG l))⟩,⟨_,rfl,.ptr 0 0 0 0 rfl⟩,⟨_,rfl,.ptr 1 1 0 0 rfl⟩,⟨_,rfl,.ptr 3 3 0 0 rfl⟩,aH,⟨_,rfl,.ptr 6 6 0 0 rfl⟩,aH,trivial⟩) ?_
    intro k hk;have dk:decide ((k:Int)<(n:Int))=decide (k<n):=SB.2 (by omega);by_cases hkn:k<n
    · ((conv=>whnf);repeat(refine Xg ?_;conv=>whnf))
      rw[dk,Rs hkn];((conv=>whnf);repeat(refine Xg ?_;conv=>whnf));repeat((first|refine aB.2 ?_|refine aD ?_);(conv=>whnf);repeat(refine Xg ?_;conv=>whnf))
      refine aK (bP rfl rfl (by rw[aE];simp) (by simp;omega)) ?_;((conv=>whnf);repeat(refine Xg ?_;conv=>whnf));repeat((first|refine aB.2 ?_|refine aD ?_);(conv=>whnf);repeat(refine Xg ?_;conv=>whnf))
      exact .mk (k+1) [(0,0),(1,1),(2,2),(3,3),(4,4),(5,5),(6,6),(9,7)] (by omega)
        (aJ _ rfl ⟨⟨0,_,rfl,rfl,.same dD⟩,⟨1,_,rfl,rfl,.cons (.agg (.cons (.sl 2 2 0 _ rfl) .nil)) .nil⟩,⟨2,_,rfl,rfl,.same (aQ _)⟩,⟨3,_,rfl,rfl,.cons (.agg (.s (.s (.s (.s (.cons (.sl 4 4 0 _ rfl) (.s (.s (.cons (.sl 5 5 0 _ rfl) (.s (.s (.s (.s .nil))))))))))))) .nil⟩,⟨4,_,rfl,rfl,.same (aG _)⟩,⟨5,_,rfl,rfl,.same (aG _)⟩,
            ⟨6,_,rfl,rfl,.cons (.agg (.s (.s (.s (.s (.s (.s (.s (.cons (.slE rfl (by simp)) (.s (.s (.s (.s .nil))))))))))))) .nil⟩,⟨9,_,rfl,rfl,.eq (aG _) (by rw[List.replicate_succ'];simp[aI])⟩,trivial⟩
          ⟨⟨_,rfl,.same _ (.il' (aG l))⟩,⟨_,rfl,.ptr 0 0 0 0 rfl⟩,⟨_,rfl,.ptr 1 1 0 0 rfl⟩,⟨_,rfl,.ptr 3 3 0 0 rfl⟩,aH,⟨_,rfl,.ptr 6 6 0 0 rfl⟩,⟨_,rfl,.wo⟩,trivial⟩) (by omega)
    · have hke:k=n:=by omega
      subst hke;((conv=>whnf);repeat(refine Xg ?_;conv=>whnf));rw[dk,R4 hkn];((conv=>whnf);repeat(refine Xg ?_;conv=>whnf));repeat((first|refine aB.2 ?_|refine aD ?_);(conv=>whnf);repeat(refine Xg ?_;conv=>whnf))
      refine aK (bP rfl rfl (by rw[bD,lQ]) (by simp;omega)) ?_;((conv=>whnf);repeat(refine Xg ?_;conv=>whnf));repeat((first|refine aB.2 ?_|refine aD ?_);(conv=>whnf);repeat(refine Xg ?_;conv=>whnf))
      refine aK (bP rfl rfl (by rw[aE,jH]) (by simp;omega)) ?_;((conv=>whnf);repeat(refine Xg ?_;conv=>whnf));repeat((first|refine aB.2 ?_|refine aD ?_);(conv=>whnf);repeat(refine Xg ?_;conv=>whnf))
      refine aK (bP rfl rfl (by rw[aE];simp) (by simp;omega)) ?_;((conv=>whnf);repeat(refine Xg ?_;conv=>whnf));repeat((first|refine aB.2 ?_|refine aD ?_);(conv=>whnf);repeat(refine Xg ?_;conv=>whnf))
      have hen:aR (CY (1+a) (k+1))=aR (CY (1+a) k)++[bU (Fr k)]:=by rw[L1];simp[aR]
      have hw:IntKind.i64.wrap (((k+1+1:Nat):Int)-1)=(k:Int)+1:=by rw[bY ⟨by omega,by omega⟩];omega
      exact .mk (k+1) [(0,0),(1,1),(9,2),(3,3),(13,4),(11,5)] (by omega)
        (aJ _ rfl ⟨⟨0,_,rfl,rfl,.same dD⟩,⟨1,_,rfl,rfl,.cons (.agg (.cons (.slE rfl (by simp)) .nil)) .nil⟩,
            ⟨9,_,rfl,rfl,by rw[hen];exact pS.to (xs:=aR (CY (1+a) k)++[.agg [.int .i64 3,.str [],.int .i64 0,.int .i64 0,.nsl,.nsl,.nsl,.sl 7 0 k,.int .i64 0,.int .i64 0,.str [],.nsl]]) (.snoc rfl (.same (aQ _)) (.agg (.s (.s (.s (.s (.cons (.nil 1) (.cons (.nil 1) (.cons (.nil 4) (.cons (jL (id:=7) (t:=3) (xs:=aI (List.replicate k 0)) (ys:=aI (List.replicate k 0)) rfl rfl (by rw[aE,TU]) rfl (aG _)) (.s (.s (.s (.cons (.nil 4) .nil)))))))))))))) rfl⟩,
            ⟨3,_,rfl,rfl,.cons (.agg (.s (.s (.s (.s (.cons (.slE rfl (by simp)) (.s (.s (.cons (.slE rfl (by simp)) (.s (.s (.s (.s .nil))))))))))))) .nil⟩,
            ⟨13,_,rfl,rfl,.eq (aG _) (by rw[List.replicate_succ'];simp[aI])⟩,⟨11,_,rfl,rfl,.eq (aG _) (by rw[Fp];simp only[SS,SQ,List.take_succ_cons,UI];rw[hw];simp[aI])⟩,trivial⟩
          ⟨⟨_,rfl,.same _ (.il' (aG l))⟩,⟨_,rfl,.ptr 0 0 0 0 rfl⟩,⟨_,rfl,.ptr 1 1 0 0 rfl⟩,⟨_,rfl,.ptr 3 3 0 0 rfl⟩,⟨_,rfl,.wo⟩,trivial⟩) (by omega)
  · rw[dn,R4 hlt]
    ((conv=>whnf);repeat(refine Xg ?_;conv=>whnf));repeat((first|refine aB.2 ?_|refine aD ?_);(conv=>whnf);repeat(refine Xg ?_;conv=>whnf))
    refine aK (bP rfl rfl (by rw[bD,lQ]) (by simp;omega)) ?_;((conv=>whnf);repeat(refine Xg ?_;conv=>whnf));repeat((first|refine aB.2 ?_|refine aD ?_);(conv=>whnf);repeat(refine Xg ?_;conv=>whnf))
    refine hP2.go ?_;((conv=>whnf);repeat(refine Xg ?_;conv=>whnf));by_cases hc:c>0
    · rw[Rs hc]
      ((conv=>whnf);repeat(refine Xg ?_;conv=>whnf));refine hP3.go ?_;((conv=>whnf);repeat(refine Xg ?_;conv=>whnf));have hwd:IntKind.i64.wrap (2+d)=2+d:=bY ⟨by omega,by omega⟩;obtain⟨d,rfl⟩:=R7 d0;have hwd:IntKind.i64.wrap (2+((d:Nat):Int))=((2+d:Nat):Int):=w64 (by omega) ⟨by omega,by omega⟩;repeat((first|refine aB.2 ?_|refine aD ?_|rw[hwd]);(conv=>whnf);repeat(refine Xg ?_;conv=>whnf))
      have g3:=i8 (l:=0) (h:=((2+d:Nat):Int).toNat) (m:=3) (n:=3) (by omega) (by omega) (R2 _);refine aK g3 ?_;((conv=>whnf);repeat(refine Xg ?_;conv=>whnf));repeat((first|refine aB.2 ?_|refine aD ?_);(conv=>whnf);repeat(refine Xg ?_;conv=>whnf))
      refine aK (bP rfl rfl (by simp[bD,lQ]) (by simp;omega)) ?_;((conv=>whnf);repeat(refine Xg ?_;conv=>whnf));obtain⟨W,hW⟩:∃W,W=IntKind.i64.wrap (((n+1+1:Nat):Int)-1):=⟨_,rfl⟩
      have hWi:i64 W:=by rw[hW];exact GS _
      have htk:List.take (((2+d:Nat):Int).toNat-0) (List.drop (0+0) (aI [W,W,0]))=aI (List.take (2+d) [W,W,0]):=by rw[SF,SS,Rq,UZ];simp[aI,T8]
      have hen:aR (CY (1+a) n++([Cb n]++[yY (List.take (2+d) [W,W,0])]))=(aR (CY (1+a) n)++[bU (Cb n)])++[bU (yY (List.take (2+d) [W,W,0]))]:=by simp[aR]
      refine bF (r':=.agg [.il 12 (aR (CY (1+a) n++([Cb n]++[yY (List.take (2+d) [W,W,0])])))]) (.agg' (.cons (.fzR (id:=22) rfl rfl ?_ (by rw[hen];simp[bD,lQ])) .nil)) ⟨_,N4 ⟨by omega,by omega⟩ (by omega) (.inr ⟨_,rfl,by rw[SX];simp;omega,fun k hk=>?_⟩),rfl,rfl,rfl⟩
      · rw[hen]
        subst hW;exact pS.to (xs:=(aR (CY (1+a) n)++[.agg [.int .i64 2,.str [],.int .i64 0,.int .i64 0,.sl 4 0 n,.nsl,.nsl,.sl 5 0 n,.int .i64 0,.int .i64 0,.str [],.nsl]])++[.agg [.int .i64 3,.str [80,97,105,114],.int .i64 0,.int .i64 0,.nsl,.nsl,.nsl,.sl 12 (0+0) (((2+d:Nat):Int).toNat-0),.int .i64 0,.int .i64 0,.str [],.nsl]]) (.snoc (by simp) (.snoc rfl (.same (aQ _)) (.agg (.s (.s (.s (.s (.cons (jL (id:=4) (t:=3) (xs:=aI (List.replicate n 1)) (ys:=aI (List.replicate n 1)) rfl rfl (by rw[aE,TU]) rfl (aG _)) (.cons (.nil 1) (.cons (.nil 4) (.cons (jL (id:=5) (t:=3) (xs:=aI (lZ n)) (ys:=aI (lZ n)) rfl rfl (by rw[aE,jH]) rfl (aG _)) (.s (.s (.s (.cons (.nil 4) .nil)))))))))))))) (.agg (.s (.s (.s (.s (.cons (.nil 1) (.cons (.nil 1) (.cons (.nil 4) (.cons (.fz' (id:=12) (t:=3) (xs:=aI [IntKind.i64.wrap (((n+1+1:Nat):Int)-1),IntKind.i64.wrap (((n+1+1:Nat):Int)-1),0]) (ys:=aI (List.take (2+d) [IntKind.i64.wrap (((n+1+1:Nat):Int)-1),IntKind.i64.wrap (((n+1+1:Nat):Int)-1),0])) rfl rfl (by rw[aE];simp;omega) htk (aG _)) (.s (.s (.s (.cons (.nil 4) .nil)))))))))))))) rfl
      · have hk:=Se hk
        simp only[Rz,UR,or_false] at hk;rcases hk with rfl|rfl|rfl
        · exact hWi
        · exact hWi
        · exact z0
    · rw[R4 hc]
      ((conv=>whnf);repeat(refine Xg ?_;conv=>whnf));have hen:aR (CY (1+a) n++([Cb n]++[]))=aR (CY (1+a) n)++[bU (Cb n)]:=by simp[aR]
      refine bF (r':=.agg [.il 12 (aR (CY (1+a) n++([Cb n]++[])))]) (.agg' (.cons (.fzR (id:=7) rfl rfl ?_ (by rw[hen];simp[bD,lQ])) .nil)) ⟨_,N4 ⟨by omega,by omega⟩ (by omega) (.inl rfl),rfl,rfl,rfl⟩;rw[hen];exact pS.to (xs:=aR (CY (1+a) n)++[.agg [.int .i64 2,.str [],.int .i64 0,.int .i64 0,.sl 4 0 n,.nsl,.nsl,.sl 5 0 n,.int .i64 0,.int .i64 0,.str [],.nsl]]) (.snoc rfl (.same (aQ _)) (.agg (.s (.s (.s (.s (.cons (jL (id:=4) (t:=3) (xs:=aI (List.replicate n 1)) (ys:=aI (List.replicate n 1)) rfl rfl (by rw[aE,TU]) rfl (aG _)) (.cons (.nil 1) (.cons (.nil 4) (.cons (jL (id:=5) (t:=3) (xs:=aI (lZ n)) (ys:=aI (lZ n)) rfl rfl (by rw[aE,jH]) rfl (aG _)) (.s (.s (.s (.cons (.nil 4) .nil)))))))))))))) rfl
set_option maxHeartbeats 16000000
structure TB(A:List Nd):Prop where
 tin:qT A
 hp:VT A->3*HP A (A.length-1)<=6377292
theorem TB.cnt{A:List Nd}(h:TB A)(hv:VT A):∀p f i a0,i<f->i<A.length->(a6 A p f i a0).spans.length<=4294967296:=fun p f i a0 h1 h2=>by
 have:=KJ hv (h.hp hv) p f i a0 h1 h2;omega
theorem TB.pb{A:List Nd}{p:List Int}(h:TB A)(hl:p.length<=1024)(hp:∀x∈p,i64 x):PB A p where
 tin:=h.tin
 len:=by omega
 i64:=hp
 cnt:=fun hv=>h.cnt hv p
 cntA:=h.cnt
 raws:=fun which e=>by
  have hi:Je A p:=⟨h.tin,by omega,hp,fun hv=>h.cnt hv p⟩
  have hv:=fZ hi e;have hn:(bW A p).length<=3200000:=by
   unfold bW;rw[Rx e];exact KJ hv (h.hp hv) p A.length (A.length-1) 0 (by have:=hv.pos;omega) (by have:=hv.pos;omega)
  exact KI hn (R2 _) hl
theorem OO{A:List Nd}(h:gY A)(hl:A.length<=14):TB A:=
 ⟨yR (LB:=LB) (fun s hs=>ED hs) (fun x hx=>Hy IA (Dg h x hx)) (by omega),fun _=>OD h.gen hl⟩
theorem P9{A ns:List Nd}(h:gY A)(hl:A.length<=14)(hs:∀x∈ns,wF LB x)(hn:ns.length<=14)(hd:ns=[]∨∃i x y,A[i]? = some x/\Pf x y/\ns=A.set i y):TB ns:=
 ⟨yR (LB:=LB) (fun s hs=>ED hs) hs (by omega),fun hv=>by
  rcases hd with rfl|⟨i,x,y,h1,h2,rfl⟩
  ·exact absurd hv.pos (by simp)
  ·exact Ps h hl h1 h2 hv⟩
theorem QC{A:List Nd}(h:NS A):TB A:=
 ⟨yR (LB:=LB) (fun s hs=>ED hs) h.sp (by have:=h.len;omega),fun hv=>by
  have hg:∀j,gN (aN A j)<=5:=fun j=>by
   unfold aN;rw[Rn];cases e:A[j]? with
   | none=>simp[gN]
   | some x=>
    simp only[TG];unfold gN;split
    ·rename_i h3;have:=h.seq x (R3 e) h3;omega
    ·omega
  have h1:=II hg (A.length-1);have h2:=MG (n:=A.length-1) (by have:=h.len;omega);omega⟩
theorem pD{A:List Nd}{p:List Int}(h:PB A p)(k:Nat):(dF A p k).length<=5120030000001:=by
 unfold dF;split
 ·rename_i e;have h1:=wT (cC A p (cO k (bW A p) p));have h2:=g7 A p (cO k (bW A p) p);have h3:=h.raws k e;omega
 ·simp
theorem mN{A:List Nd}{p:List Int}(h:PB A p)(k:Nat):oZ (dF A p k):=fun q hq=>by
 unfold dF at hq;split at hq
 ·rename_i e;have:=wJ (fZ h.toJe e) p _ q (Dn hq);omega
 ·cases hq
theorem Lb{A:List Nd}{p:List Int}(h:PB A p):a8 prog [] 34 [.int .i64 3,.agg [.il 12 (aR A)],.il 1 (aI p)] (.bool true):=by
 have nA:NN (.il 12 (aR A)):=.il' (aQ A);have np:NN (.il 1 (aI p)):=.il' (aG p);have nAp:g9 [AV.agg [.il 12 (aR A)],AV.il 1 (aI p)]:=.cons (.agg' (.cons nA .nil)) (.cons np .nil);have hO:=Lr h;have hP:=Oy h;have hS:=rX (dF A p 3) (pD h 3) (mN h 3);have nR:NN (.il 1 (aZ (dF A p 3))):=.il' (aU _);generalize dF A p 3=R at *;generalize bV A p=E at *;refine aL bC func34 rfl ?_;((conv=>whnf);repeat(refine Xg ?_;conv=>whnf));refine hO.go ?_ nAp (.tup' (.cons nR (.cons nn .nil)));((conv=>whnf);repeat(refine Xg ?_;conv=>whnf));repeat((first|refine aB.2 ?_|refine aD ?_);(conv=>whnf);repeat(refine Xg ?_;conv=>whnf))
 refine hP.go ?_ (.cons nn nAp) (.tup' (.cons nR (.cons nn .nil)));((conv=>whnf);repeat(refine Xg ?_;conv=>whnf));repeat((first|refine aB.2 ?_|refine aD ?_);(conv=>whnf);repeat(refine Xg ?_;conv=>whnf))
 rw[show (E == E)=true by simp];((conv=>whnf);repeat(refine Xg ?_;conv=>whnf));refine hS.go ?_ (.cons nR (.cons nR .nil)) nn;((conv=>whnf);repeat(refine Xg ?_;conv=>whnf));exact bF (r':=.bool true) (.same _ nn) ⟨rfl,rfl,rfl⟩
set_option maxHeartbeats 16000000
theorem RX(l:List Int)(n:Nat)(hl:∀x∈l,i64 x)(hn:n<=1000):aM prog [] 9 [.il 1 (aI l),.int .i64 n] [] 0 fun r m k=>∃xs:List Int,xs.length=n/\(∀x∈xs,i64 x)/\r = .il 1 (aI xs)/\m=[]/\k=0:=by
 have nl:NN (.il 1 (aI l)):=.il' (aG l);refine aL bC func9 rfl ?_;((conv=>whnf);repeat(refine Xg ?_;conv=>whnf));refine a7.ph 3 1 ?_;refine a7.at bC (fun x:List Int=>x.length<=n/\∀y∈x,i64 y)
  (fun x=>⟨[(0,.il 1 (aI l)),(1,.int .i64 n),(5,.sl 0 0 x.length),(6,.int .i64 x.length)],[(0,.row 3 1 (aI x))],1,25⟩)
  (fun x=>n-x.length) [] [(0,0)] ⟨by simp,by simp⟩
  (aJ _ rfl ⟨⟨0,_,rfl,rfl,.nil⟩,trivial⟩ ⟨⟨_,rfl,.same _ nl⟩,aH,⟨_,rfl,.nslk 0 0 _ rfl rfl⟩,aH,trivial⟩) ?_
 rintro x ⟨x1,x2⟩;have d1:decide ((x.length:Int)<(n:Int))=decide (x.length<n):=SB.2 (by omega);have lx:=aE x;by_cases hx:x.length<n
 ·have h1:=sT l x.length 9 hl (by omega);have h2:=sT l (x.length+1) 20 hl (by omega);have b1:0<=gB l x.length 9/\gB l x.length 9<9:=eG (by omega);have b2:0<=gB l (x.length+1) 20/\gB l (x.length+1) 20<20:=eG (by omega);have hw:IntKind.i64.wrap ((x.length:Int)+1)=(x.length:Int)+1:=bY ⟨by omega,by omega⟩;generalize gB l x.length 9=a at *;generalize gB l (x.length+1) 20=b at *;((conv=>whnf);repeat(refine Xg ?_;conv=>whnf));rw[d1,Rs hx];((conv=>whnf);repeat(refine Xg ?_;conv=>whnf));refine h1.go ?_ (.cons nl (.cons nn (.cons nn .nil))) nn;((conv=>whnf);repeat(refine Xg ?_;conv=>whnf));rw[hw];refine h2.go ?_ (.cons nl (.cons nn (.cons nn .nil))) nn;((conv=>whnf);repeat(refine Xg ?_;conv=>whnf));have hv:=GS (a-IntKind.i64.wrap (b.tdiv 19));generalize IntKind.i64.wrap (a-IntKind.i64.wrap (b.tdiv 19))=v at *;refine aK (bP rfl rfl (by rw[lx]) (by simp;omega)) ?_;((conv=>whnf);repeat(refine Xg ?_;conv=>whnf));exact .mk (x++[v]) [(2,0)] ⟨by simp;omega,fun y hy=>by
    rcases R5.1 hy with hy|hy
    ·exact x2 y hy
    ·simp at hy;rw[hy];exact hv⟩
   (aJ _ rfl ⟨⟨2,_,rfl,rfl,.eq (aG _) (by simp[aI])⟩,trivial⟩ ⟨⟨_,rfl,.same _ nl⟩,aH,⟨_,rfl,.slE rfl (by simp)⟩,⟨_,rfl,.int (by rw[hw];simp)⟩,trivial⟩) (by simp;omega)
 ·((conv=>whnf);repeat(refine Xg ?_;conv=>whnf));rw[d1,R4 hx];((conv=>whnf);repeat(refine Xg ?_;conv=>whnf));exact bF (r':=.il 1 (aI x)) (dT (id:=0) rfl lx.symm rfl (aG x)) ⟨x,by omega,x2,rfl,rfl,rfl⟩
set_option maxHeartbeats 16000000
theorem lV(A:List Nd):NN (.agg [.il 12 (aR A)]):=.agg' (.cons (.il' (aQ _)) .nil)
def Ph(A B:List Nd):List AV:=[.agg [.il 12 (aR A)],.agg [.il 12 (aR B)]]
theorem L4(A B:List Nd):g9 (Ph A B):=.cons (lV A) (.cons (lV B) .nil)
theorem OU(l:List Int)(hl:∀x∈l,i64 x):aM prog [] 32 [.il 1 (aI l)] [] 0 fun r m n=>∃A B:List Nd,gY A/\A.length<=14/\NS B/\r = .il 1 (Ph A B)/\m=[]/\n=0:=by
 have nl:NN (.il 1 (aI l)):=.il' (aG l);refine aL bC func32 rfl ?_;((conv=>whnf);repeat(refine Xg ?_;conv=>whnf));refine Qn l hl fun A hA hAl=>?_
 ((conv=>whnf);repeat(refine Xg ?_;conv=>whnf));refine aM.goG0 (PW l hl) ?_;rintro r m n ⟨B,hB,rfl,rfl,rfl⟩;refine⟨_,.same _ (lV B), ?_⟩;((conv=>whnf);repeat(refine Xg ?_;conv=>whnf));exact bF (r':=.il 1 (Ph A B)) (dT (id:=0) rfl rfl rfl (L4 A B)) ⟨A,B,hA,hAl,hB,rfl,rfl,rfl⟩
theorem J1{A:List Nd}(hin:qT A)(r:List Int):(Ce A r).length<=1024:=by
 unfold Ce;split
 ·rename_i e;unfold EV at e;split at e
  ·omega
  ·split at e
   ·omega
   ·exact o9 ⟨hin,by omega,by omega⟩ r
 ·simp
theorem Km{A:List Nd}(hin:qT A)(r:List Int)(hr:∀x∈r,i64 x):∀x∈Ce A r,i64 x:=by
 unfold Ce;split
 ·rename_i e;unfold EV at e;split at e
  ·omega
  ·split at e
   ·omega
   ·exact FG ⟨hin,by omega,by omega⟩ r hr
 ·simp
theorem Qg{A B:List Nd}{i:Nat}(hi:i<2)(hA:TB A)(hB:TB B):∃C,TB C/\(Ph A B)[(i:Int).toNat]? = some (.agg [.il 12 (aR C)]):=by
 match i,hi with
 | 0,_=>exact⟨A,hA,rfl⟩
 | 1,_=>exact⟨B,hB,rfl⟩
theorem K8(w:Int)(l m:List Int)(at_ how n:Int)(hP:∀(A:List Nd) (p:List Int),PB A p->a8 prog [] 34 [.int .i64 w,.agg [.il 12 (aR A)],.il 1 (aI p)] (.bool true))
  (hl:∀x∈l,i64 x) (hm:∀x∈m,i64 x) (ha:i64 at_) (hh:i64 how) (hn:i64 n) :
  aM prog [] 17 [.int .i64 w,.il 1 (aI l),.il 1 (aI m),.int .i64 at_,.int .i64 how,.int .i64 n] [] 0 fun r mm k=>r = .bool true/\mm=[]/\k=0:=by
 have nl:NN (.il 1 (aI l)):=.il' (aG l);have nm:NN (.il 1 (aI m)):=.il' (aG m);refine aL bC func17 rfl ?_;((conv=>whnf);repeat(refine Xg ?_;conv=>whnf));refine aM.goG0 (OU l hl) ?_ (.cons nl .nil);rintro r mm k ⟨A,B,hA,hAl,hB,rfl,rfl,rfl⟩;have tA:=OO hA hAl;have tB:=QC hB;have nt2:NN (.il 1 (Ph A B)):=.il' (L4 A B);refine⟨_,.same _ nt2, ?_⟩;((conv=>whnf);repeat(refine Xg ?_;conv=>whnf));refine a7.at bC (fun i:Nat=>i<=2) (fun i=>⟨[(0,.int .i64 w),(2,.il 1 (aI m)),(3,.int .i64 at_),(4,.int .i64 how),(5,.int .i64 n),(13,.il 1 (Ph A B)),(14,.int .i64 i)],[],0,74⟩) (fun i=>2-i) 0 [] (by omega)
  (bL ⟨aH,⟨_,rfl,.same _ nm⟩,aH,aH,aH,⟨_,rfl,.same _ nt2⟩,aH,trivial⟩) ?_
 intro i hi;have di:decide ((i:Int)<2)=decide (i<2):=SB.2 (by omega);by_cases hlt:i<2
 ·obtain⟨C,tC,eC⟩:=Qg hlt tA tB;have nC:=lV C;((conv=>whnf);repeat(refine Xg ?_;conv=>whnf));rw[di,Rs hlt];((conv=>whnf);repeat(refine Xg ?_;conv=>whnf));repeat((first|refine aC eC ?_|refine aB.2 ?_|refine aD ?_);(conv=>whnf);repeat(refine Xg ?_;conv=>whnf))
  refine aM.goG0 (RX m 12 hm (by omega)) ?_ (.cons nm (.cons nn .nil));rintro r mm k ⟨xs,hx,hxi,rfl,rfl,rfl⟩;refine⟨_,.same _ (.il' (aG xs)), ?_⟩;have hF:=Nx tC.tin tC.cnt xs (by omega) hxi;have hQl:=J1 tC.tin xs;have hQi:=Km tC.tin xs hxi;generalize Ce C xs=p at *;have np:NN (.il 1 (aI p)):=.il' (aG p);have lp:=aE p;((conv=>whnf);repeat(refine Xg ?_;conv=>whnf));repeat((first|refine aC eC ?_|refine aB.2 ?_|refine aD ?_);(conv=>whnf);repeat(refine Xg ?_;conv=>whnf))
  refine hF.go ?_ (.cons nC (.cons (.il' (aG xs)) .nil)) (.tup' (.cons np (.cons nn .nil)));((conv=>whnf);repeat(refine Xg ?_;conv=>whnf));repeat((first|refine aC eC ?_|refine aB.2 ?_|refine aD ?_);(conv=>whnf);repeat(refine Xg ?_;conv=>whnf))
  have h12:=hP C p (tC.pb hQl hQi);refine aK (bP rfl rfl rfl (by rw[lp];simp;omega)) ?_;((conv=>whnf);repeat(refine Xg ?_;conv=>whnf));by_cases h0:p.length=0
  ·obtain rfl:=S1.1 h0;rw[show decide (((0+(aI []).length:Nat):Int)>0)=false by simp[aI]];((conv=>whnf);repeat(refine Xg ?_;conv=>whnf));repeat((first|refine aC eC ?_|refine aB.2 ?_|refine aD ?_);(conv=>whnf);repeat(refine Xg ?_;conv=>whnf))
   refine h12.go ?_ (.cons nn (.cons nC (.cons np .nil))) nn;((conv=>whnf);repeat(refine Xg ?_;conv=>whnf));repeat((first|refine aC eC ?_|refine aB.2 ?_|refine aD ?_);(conv=>whnf);repeat(refine Xg ?_;conv=>whnf))
   refine h12.frz [13] bC (.s (.cons (.same _ nC) (.cons (dT (id:=13) rfl rfl (by simp) (aG [])) .nil))) nn ?_;((conv=>whnf);repeat(refine Xg ?_;conv=>whnf));repeat((first|refine aC eC ?_|refine aB.2 ?_|refine aD ?_);(conv=>whnf);repeat(refine Xg ?_;conv=>whnf))
   exact .mk (i+1) [] (by omega) (bL ⟨aH,⟨_,rfl,.same _ nm⟩,aH,aH,aH,⟨_,rfl,.same _ nt2⟩,⟨_,rfl,.wo⟩,trivial⟩) (by omega)
  ·rw[show decide (((0+(aI p).length:Nat):Int)>0)=true by rw[lp];simp;omega];have hAr:=tT at_ ((0+(aI p).length:Nat):Int) ha (by rw[lp];omega);obtain⟨b0,b1⟩:=iD (n:=at_) (most:=((0+(aI p).length:Nat):Int)) (by rw[lp];omega);generalize jM at_ ((0+(aI p).length:Nat):Int)=j at hAr b0 b1;obtain⟨j,rfl⟩:=R7 b0;have hjl:j<p.length:=by rw[lp] at b1;omega
   have g1:Nat.blt ((j:Nat):Int).toNat (0+(aI p).length)=true:=Ru (by rw[lp];simp;omega);have ej:([]++aI p)[0+((j:Nat):Int).toNat]? = some (.int .i64 p[j]):=by rw[SY,SF];exact dK hjl
   have hsi:=vP p j n;have h12':=hP C (p.set j n) (tC.pb (by rw[Sx];exact hQl) fun x hx=>by
    rcases TT hx with h2|h2
    ·exact hQi x h2
    ·rw[h2];exact hn)
   generalize p[j]=z at *;((conv=>whnf);repeat(refine Xg ?_;conv=>whnf));refine hAr.go ?_ (.cons nn (.cons nn .nil)) nn;((conv=>whnf);repeat(refine Xg ?_;conv=>whnf));repeat((first|refine aK g1 ?_|refine aC ej ?_|refine aC eC ?_|refine aB.2 ?_|refine aD ?_);(conv=>whnf);repeat(refine Xg ?_;conv=>whnf))
   refine h12.go ?_ (.cons nn (.cons nC (.cons np .nil))) nn;((conv=>whnf);repeat(refine Xg ?_;conv=>whnf));repeat((first|refine aC eC ?_|refine aB.2 ?_|refine aD ?_);(conv=>whnf);repeat(refine Xg ?_;conv=>whnf))
   refine h12'.frz [13] bC (.s (.cons (.same _ nC) (.cons (dT (id:=13) rfl (by simp) (by rw[hsi];simp) (aG _)) .nil))) nn ?_;((conv=>whnf);repeat(refine Xg ?_;conv=>whnf));repeat((first|refine aC eC ?_|refine aB.2 ?_|refine aD ?_);(conv=>whnf);repeat(refine Xg ?_;conv=>whnf))
   exact .mk (i+1) [] (by omega) (bL ⟨aH,⟨_,rfl,.same _ nm⟩,aH,aH,aH,⟨_,rfl,.same _ nt2⟩,⟨_,rfl,.wo⟩,trivial⟩) (by omega)
 ·((conv=>whnf);repeat(refine Xg ?_;conv=>whnf));rw[di,R4 hlt];((conv=>whnf);repeat(refine Xg ?_;conv=>whnf));refine aM.goG0 (Ks A at_ how n (Dg hA) hAl ha hh hn) ?_ (.cons (lV A) (.cons nn (.cons nn (.cons nn .nil))));rintro r mm k ⟨ns,h1,h2,h3,rfl,rfl,rfl⟩;have tN:=P9 hA hAl h1 h2 h3;have hL:=hP ns [] (tN.pb (by simp) (by simp));refine⟨_,.same _ (lV ns), ?_⟩;((conv=>whnf);repeat(refine Xg ?_;conv=>whnf));refine hL.frz [] bC (.s (.cons (.same _ (lV ns)) (.cons (.nil 1) .nil))) nn ?_;((conv=>whnf);repeat(refine Xg ?_;conv=>whnf));exact bF (r':=.bool true) (.same _ nn) ⟨rfl,rfl,rfl⟩
end Go.Proofs.YthempfhilcmfnaaGreat
namespace Go.Ax
open Go
def CW(f:AV->Option AV):List AV->Option (List AV)
 | []=>some []
 | a::r=>match f a with
  | none=>none
  | some b=>match CW f r with
   | none=>none
   | some t=>some (b::t)
def frz:Nat->List (Nat × Nat)->aS->AV->Option AV
 | 0,_,_,_=>none
 | n+1,σ,m,v=>match v with
  | .bool b=>some (.bool b)
  | .int k i=>some (.int k i)
  | .str s=>some (.str s)
  | .nptr=>some .nptr
  | .nsl=>some .nsl
  | .nmap=>some .nmap
  | .nfn=>some .nfn
  | .nif=>some .nif
  | .sl id off len=>match lk σ id with
   | none=>match lk m id with
    | some (.row t sz xs)=>match Nat.ble (off+len) xs.length with
     | true=>match CW (frz n σ m) ((xs.drop off).take len) with
      | some ys=>some (.il sz ys)
      | none=>none
     | false=>none
    | _=>none
   | some _=>none
  | .il sz xs=>match CW (frz n σ m) xs with
   | some ys=>some (.il sz ys)
   | none=>none
  | .ifc t v=>match frz n σ m v with
   | some v'=>some (.ifc t v')
   | none=>none
  | .agg cs=>match CW (frz n σ m) cs with
   | some ys=>some (.agg ys)
   | none=>none
  | .tup cs=>match CW (frz n σ m) cs with
   | some ys=>some (.tup ys)
   | none=>none
  | _=>none
structure yC(m:aS)(σ:List (Nat × Nat))(v v':AV):Prop where
 cv:Cv m σ v v'
 nn:NN v'
 ce:iL m σ v.cells v'.cells
theorem yC.len{m:aS}{σ:List (Nat × Nat)}{v v':AV}(h:yC m σ v v'):v.cells.length=v'.cells.length:=h.ce.1
theorem j9{m:aS}{σ:List (Nat × Nat)}{f:AV->Option AV}(hf:∀v v',f v=some v'->yC m σ v v'):∀{l l':List AV},CW f l=some l'->l.length=l'.length/\∀(j:Nat) (a b:AV),l[j]? = some a->l'[j]? = some b->yC m σ a b
 | [],l',h=>by simp only[CW] at h;cases h;exact⟨rfl,fun j a b h=>by simp at h⟩
 | a::r,l',h=>by
  simp only[CW] at h;split at h
  ·cases h
  ·rename_i b hb;split at h
   ·cases h
   ·rename_i t ht;cases h;obtain⟨h1,h2⟩:=j9 hf ht;refine⟨by simp[h1],fun j x y hx hy=>?_⟩;cases j with
    | zero=>simp at hx hy;subst hx hy;exact hf _ _ hb
    | succ j=>simp at hx hy;exact h2 j x y hx hy
theorem wY{m:aS}{σ:List (Nat × Nat)}{l l':List AV}(h1:l.length=l'.length)(h2:∀(j:Nat) (a b:AV),l[j]? = some a->l'[j]? = some b->yC m σ a b):g9 l':=fun b hb=>by
 obtain⟨j,hj⟩:=Sb hb;obtain⟨a,ha⟩:=cX h1 hj;exact(h2 j a b ha hj).nn
theorem yC.one{m:aS}{σ:List (Nat × Nat)}{v v':AV}(h1:v.cells=[v])(h2:v'.cells=[v'])(hc:Cv m σ v v')(hn:NN v'):yC m σ v v':=
 ⟨hc,hn,by rw[h1,h2];exact iL.cons hc .nil⟩
theorem pH{m:aS}{σ:List (Nat × Nat)}:∀(n:Nat) (v v':AV),frz n σ m v=some v'->yC m σ v v'
 | 0,v,v',h=>by simp[frz] at h
 | n+1,v,v',h=>by
  have ih:=pH (m:=m) (σ:=σ) n;cases v with
  | bool b=>simp only[frz] at h;cases h;exact .one rfl rfl (.same _ (.bool b)) (.bool b)
  | int k i=>simp only[frz] at h;cases h;exact .one rfl rfl (.same _ (.int k i)) (.int k i)
  | str s=>simp only[frz] at h;cases h;exact .one rfl rfl (.same _ (.str s)) (.str s)
  | nptr=>simp only[frz] at h;cases h;exact .one rfl rfl (.same _ .nptr) .nptr
  | nsl=>simp only[frz] at h;cases h;exact .one rfl rfl (.same _ .nsl) .nsl
  | nmap=>simp only[frz] at h;cases h;exact .one rfl rfl (.same _ .nmap) .nmap
  | nfn=>simp only[frz] at h;cases h;exact .one rfl rfl (.same _ .nfn) .nfn
  | nif=>simp only[frz] at h;cases h;exact .one rfl rfl (.same _ .nif) .nif
  | ptr id i j=>simp[frz] at h
  | mp id=>simp[frz] at h
  | ip v=>simp[frz] at h
  | fn f a b=>simp[frz] at h
  | junk=>simp[frz] at h
  | yld id=>simp[frz] at h
  | sl id off len=>
   simp only[frz] at h;split at h
   ·rename_i hs;split at h
    ·rename_i t sz xs hx;split at h
     ·rename_i hle;split at h
      ·rename_i ys hy;cases h;have hle:=Ry hle;obtain⟨h1,h2⟩:=j9 ih hy;have hget:∀(i:Nat) (x y:AV),xs[off+i]? = some x->ys[i]? = some y->yC m σ x y:=fun i x y hx hy=>by
        refine h2 i x y ?_ hy;have hlt:i<ys.length:=(Rt.1 hy).1;rw[←h1] at hlt;rw[ST,Rx (by simp at hlt;omega),SZ];exact hx
       refine .one rfl rfl (.fz id off len t sz xs ys hx hs hle (by rw[←h1];simp;omega) (fun i x y hx hy=>(hget i x y hx hy).len) fun i x y j c c' hx hy hc hc'=>(hget i x y hx hy).ce.2 j c c' hc hc') ?_;exact NN.il' (wY h1 h2)
      ·cases h
     ·cases h
    ·cases h
   ·cases h
  | il sz xs=>
   simp only[frz] at h;split at h
   ·rename_i ys hy;cases h;obtain⟨h1,h2⟩:=j9 ih hy;refine .one rfl rfl (.il sz xs ys h1 (fun i x y hx hy=>(h2 i x y hx hy).len) fun i x y j c c' hx hy hc hc'=>(h2 i x y hx hy).ce.2 j c c' hc hc') ?_;exact NN.il' (wY h1 h2)
   ·cases h
  | ifc t v=>
   simp only[frz] at h;split at h
   ·rename_i v' hv;cases h;exact .one rfl rfl (.ifc t v v' (ih v v' hv).cv) (.ifc t v' (ih v v' hv).nn)
   ·cases h
  | agg cs=>
   simp only[frz] at h;split at h
   ·rename_i ys hy;cases h;obtain⟨h1,h2⟩:=j9 ih hy;have hl:iL m σ cs ys:=⟨h1,fun j c c' hc hc'=>(h2 j c c' hc hc').cv⟩
    exact⟨.agg' hl,.agg' (wY h1 h2),hl⟩
   ·cases h
  | tup cs=>
   simp only[frz] at h;split at h
   ·rename_i ys hy;cases h;obtain⟨h1,h2⟩:=j9 ih hy;have hl:iL m σ cs ys:=⟨h1,fun j c c' hc hc'=>(h2 j c c' hc hc').cv⟩
    exact .one rfl rfl (.tup' hl) (.tup' (wY h1 h2))
   ·cases h
theorem El{m:aS}{args bs:List AV}(n:Nat)(h:CW (frz n [] m) args=some bs):iL m [] args bs:=by
 obtain⟨h1,h2⟩:=j9 (pH n) h;exact⟨h1,fun j c c' hc hc'=>(h2 j c c' hc hc').cv⟩
def Ns:aS->List (Nat × Nat)
 | []=>[]
 | (i,_)::r=>(i,i)::Ns r
theorem PE{mem:aS}:∀{i:Nat} {b:AB},lk mem i=some b->lk (Ns mem) i=some i:=by
 induction mem with
 | nil=>intro i b h;simp[lk] at h
 | cons p r ih=>
  intro i b h;obtain⟨j,u⟩:=p;simp only[lk] at h;simp only[Ns,lk];split at h
  ·rename_i e;rw[Rw e]
  ·exact ih h
def Hs(m:aS):aS->Bool
 | []=>true
 | (i,b)::r=>(match b with
  | .row t sz xs=>match lk m i with
   | some (.row t' sz' xs')=>match CW (frz 30 [] []) xs with
    | some ys=>Nat.beq t t' && (Nat.beq sz sz' && (rF xs' xs && rF ys xs))
    | none=>false
   | _=>false
  | _=>false) && Hs m r
theorem zQ{m:aS}(σ:List (Nat × Nat)):∀{mem:aS},Hs m mem=true->(∀p∈mem,lk σ p.1=some p.1)->cH m σ mem
 | [],h,hs=>trivial
 | (i,b)::r,h,hs=>by
  simp only[Hs,Rr] at h;refine⟨?_,zQ σ h.2 fun p hp=>hs p (SE _ hp)⟩;have h:=h.1;split at h
  ·rename_i t sz xs;split at h
   ·rename_i t' sz' xs' hl;split at h
    ·rename_i ys hy;simp only[Rr] at h;obtain⟨h1,h2,h3,h4⟩:=h;have e1:=Rw h1;have e2:=Rw h2;have e3:=mK h3;have e4:=mK h4;subst e1 e2 e3 e4;obtain⟨g1,g2⟩:=j9 (pH 30) hy;exact⟨i,ys,hs _ (SL ..),hl,.same (wY g1 g2)⟩
    ·cases h
   ·cases h
  ·cases h
def Rc(mem:aS)(want r:AV)(m:aS):Bool:=
 match frz 30 (Ns mem) m r with
 | some v=>match lI v want with
  | true=>Hs m mem
  | false=>false
 | none=>false
def Rb(mem:aS)(want r:AV)(m:aS):Prop:=
 match Rc mem want r m with
 | true=>True
 | false=>False
theorem NY:∀{mem:aS},(mem.map (·.1)).Nodup->∀p∈mem,lk (Ns mem) p.1=some p.1:=by
 intro mem hn p hp;have:∃b,lk mem p.1=some b:=by
  clear hn
  induction mem with
  | nil=>cases hp
  | cons q r ih=>
   obtain⟨j,u⟩:=q;simp only[lk];split
   ·exact⟨u,rfl⟩
   ·rename_i e;rcases Rz.1 hp with rfl|hp
    ·simp at e
    ·exact ih hp
 obtain⟨b,hb⟩:=this;exact PE hb
theorem yM{P:Program}{Γ:List (Nat × AV)}{F:FuncId}{args:List AV}{mem:aS}{nx:Nat}{want:AV}(hΓ:∀p∈Γ,NN p.2)(dl:List Nat)(n:Nat)
  (hc:(jG (Ns mem) && (iK mem && (x9 nx nx (Ns mem) && Nat.ble nx nx)))=true)
  (h:((rD P Γ dl n).call F args mem nx (fun r m _=>Rb mem want r m) fun _ _ _=>False)=True):aM P Γ F args mem nx fun r m k=>r=want/\m=mem/\k=nx:=by
 refine aM.turn hΓ ((CP dl n (by rw[h];trivial)).mono fun r m k hk=>?_);unfold Rb at hk;split at hk
 ·rename_i hb;unfold Rc at hb;split at hb
  ·rename_i v hv;split at hb
   ·rename_i he;have e:=xW he;subst e;have hn:(mem.map (·.1)).Nodup:=by
     simp only[Rr] at hc;exact dH hc.2.1
    exact bK (Ns mem) hc (zQ _ hb (NY hn)) (pH 30 r v hv).cv ⟨rfl,rfl,rfl⟩
   ·cases hb
  ·cases hb
 ·exact hk.elim
theorem aM.exact{P:Program}{Γ:List (Nat × AV)}{F:FuncId}{args:List AV}{mem:aS}{nx:Nat}{want:AV}{K:AV->aS->Nat->Prop}(h:aM P Γ F args mem nx fun r m k=>r=want/\m=mem/\k=nx)(hk:K want mem nx):aM P Γ F args mem nx K:=
 h.mono fun r m k ⟨h1,h2,h3⟩=>by rw[h1,h2,h3];exact hk
end Go.Ax
