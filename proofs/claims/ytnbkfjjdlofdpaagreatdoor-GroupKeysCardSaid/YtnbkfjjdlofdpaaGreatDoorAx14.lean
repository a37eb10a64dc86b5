/- For every input (a slice of ints), refuterlaw34.GroupKeys returns true, and its argument reads behind the call as it read before (the card GroupKeysCardSaid, the full form). Conditions: the package-level variables that the row lists hold, when the call begins, what the program's text lays (the card ties them to it); no bound on sizes. -/
import Derived.Test.YtnbkfjjdlofdpaaGreatDoorAx13
import Derived.Test.YtnbkfjjdlofdpaaGreatDoorCards
import Derived.Test.YtnbkfjjdlofdpaaGreatDoorTie
import Derived.Lib.LaidIn
set_option linter.unusedVariables false
set_option linter.unusedSimpArgs false
set_option linter.unusedSectionVars false
namespace Go.Proofs.YtnbkfjjdlofdpaaGreatDoor
end Go.Proofs.YtnbkfjjdlofdpaaGreatDoor
namespace Go.Proofs.YtnbkfjjdlofdpaaGreatDoor
open Go Go.Ax Go.Proofs Tryz
def dZ:AV:=.agg [.int .i64 1,.str [],.int .i64 0,.int .i64 100,.nsl,.nsl,.nsl,.nsl,.int .i64 0,.int .i64 0,.str [],.nsl]
def iE:List Nat:=[103,44]
def iB:List Nat:=[41,42,130,82,7,23,43,44,31]
def h8:List Nat:=[]
def jM(e:Nat × List AV × AV):Prop:=aS prog gz e.1 e.2.1 e.2.2
theorem j5{e:Nat × List AV × AV}{t:List (Nat × List AV × AV)}(h:jM e)(ht:dF prog gz t)(h1:nR (frz 30 [] []) e.2.1=some e.2.1:=by rfl)(h2:frz 30 [] [] e.2.2=some e.2.2:=by rfl):dF prog gz (e::t):=dF.cons h h1 h2 ht
set_option maxRecDepth 1000000
def eH:Nat × List AV × AV:=(41,[.agg [.il 12 [dZ]]],.int .i64 0)
theorem uW:jM eH:=bS a7 (hX) (lJ.nil) (dF.nil) iE iB h8 500 rfl (by kernel_rfl)
theorem cI:lJ prog gz (eH::[]):=lJ.cons uW (by first|exact .int _ _|exact .bool _|exact .str _) lJ.nil
theorem BW:dF prog gz (eH::[]):=j5 uW dF.nil
set_option maxRecDepth 1000000
def fC:Nat × List AV × AV:=(42,[.agg [.il 12 [dZ]],.il 1 [.int .i64 50]],.tup [.agg [.int .i64 0,.int .i64 50,.str [],.nsl],.int .i64 0])
theorem B3:jM fC:=bS a7 (hX) (cI) (BW) iE iB h8 500 rfl (by kernel_rfl)
theorem BM:dF prog gz (fC::(eH::[])):=j5 B3 BW
set_option maxRecDepth 1000000
def fP:Nat × List AV × AV:=(42,[.agg [.il 12 [dZ]],.il 1 [.int .i64 9]],.tup [.agg [.int .i64 0,.int .i64 9,.str [],.nsl],.int .i64 0])
theorem CK:jM fP:=bS a7 (hX) (cI) (BM) iE iB h8 500 rfl (by kernel_rfl)
theorem A4:dF prog gz (fP::(fC::(eH::[]))):=j5 CK BM
set_option maxRecDepth 1000000
def gI:Nat × List AV × AV:=(130,[.agg [.il 12 [dZ]],.il 1 [.int .i64 25]],.tup [.nsl,.int .i64 0])
theorem CR:jM gI:=bS a7 (hX) (cI) (A4) iE iB h8 500 rfl (by kernel_rfl)
theorem A7:dF prog gz (gI::(fP::(fC::(eH::[])))):=j5 CR A4
set_option maxRecDepth 1000000
def g6:Nat × List AV × AV:=(82,[.agg [.il 12 [dZ]],.il 1 [.int .i64 25]],.tup [.il 1 [.il 1 [.int .i64 0],.il 1 [.int .i64 12],.il 1 [.int .i64 24]],.int .i64 0])
theorem CM:jM g6:=bS a7 (hX) (cI) (A7) iE iB h8 500 rfl (by kernel_rfl)
theorem BP:dF prog gz (g6::(gI::(fP::(fC::(eH::[]))))):=j5 CM A7
set_option maxRecDepth 1000000
def iQ:Nat × List AV × AV:=(130,[.agg [.il 12 [dZ]],.il 1 [.int .i64 12]],.tup [.nsl,.int .i64 0])
theorem Bz:jM iQ:=bS a7 (hX) (cI) (BP) iE iB h8 500 rfl (by kernel_rfl)
theorem BD:dF prog gz (iQ::(g6::(gI::(fP::(fC::(eH::[])))))):=j5 Bz BP
set_option maxRecDepth 1000000
def jH:Nat × List AV × AV:=(82,[.agg [.il 12 [dZ]],.il 1 [.int .i64 12]],.tup [.il 1 [.il 1 [.int .i64 0],.il 1 [.int .i64 6],.il 1 [.int .i64 11]],.int .i64 0])
theorem Bv:jM jH:=bS a7 (hX) (cI) (BD) iE iB h8 500 rfl (by kernel_rfl)
theorem A2:dF prog gz (jH::(iQ::(g6::(gI::(fP::(fC::(eH::[]))))))):=j5 Bv BD
set_option maxRecDepth 1000000
def jS:Nat × List AV × AV:=(130,[.agg [.il 12 [dZ]],.il 1 [.int .i64 11]],.tup [.nsl,.int .i64 0])
theorem CC:jM jS:=bS a7 (hX) (cI) (A2) iE iB h8 500 rfl (by kernel_rfl)
theorem BE:dF prog gz (jS::(jH::(iQ::(g6::(gI::(fP::(fC::(eH::[])))))))):=j5 CC A2
set_option maxRecDepth 1000000
def lU:Nat × List AV × AV:=(82,[.agg [.il 12 [dZ]],.il 1 [.int .i64 11]],.tup [.il 1 [.il 1 [.int .i64 0],.il 1 [.int .i64 5],.il 1 [.int .i64 10]],.int .i64 0])
theorem CP:jM lU:=bS a7 (hX) (cI) (BE) iE iB h8 500 rfl (by kernel_rfl)
theorem BX:dF prog gz (lU::(jS::(jH::(iQ::(g6::(gI::(fP::(fC::(eH::[]))))))))):=j5 CP BE
set_option maxRecDepth 1000000
def nF:Nat × List AV × AV:=(130,[.agg [.il 12 [dZ]],.il 1 [.int .i64 10]],.tup [.nsl,.int .i64 0])
theorem Br:jM nF:=bS a7 (hX) (cI) (BX) iE iB h8 500 rfl (by kernel_rfl)
theorem Bg:dF prog gz (nF::(lU::(jS::(jH::(iQ::(g6::(gI::(fP::(fC::(eH::[])))))))))):=j5 Br BX
set_option maxRecDepth 1000000
def kR:Nat × List AV × AV:=(82,[.agg [.il 12 [dZ]],.il 1 [.int .i64 10]],.tup [.il 1 [.il 1 [.int .i64 0],.il 1 [.int .i64 5],.il 1 [.int .i64 9]],.int .i64 0])
theorem zT:jM kR:=bS a7 (hX) (cI) (Bg) iE iB h8 500 rfl (by kernel_rfl)
theorem xK:dF prog gz (kR::(nF::(lU::(jS::(jH::(iQ::(g6::(gI::(fP::(fC::(eH::[]))))))))))):=j5 zT Bg
set_option maxRecDepth 1000000
def mR:Nat × List AV × AV:=(130,[.agg [.il 12 [dZ]],.il 1 [.int .i64 9]],.tup [.nsl,.int .i64 0])
theorem AA:jM mR:=bS a7 (hX) (cI) (xK) iE iB h8 500 rfl (by kernel_rfl)
theorem x4:dF prog gz (mR::(kR::(nF::(lU::(jS::(jH::(iQ::(g6::(gI::(fP::(fC::(eH::[])))))))))))):=j5 AA xK
set_option maxRecDepth 1000000
def oI:Nat × List AV × AV:=(82,[.agg [.il 12 [dZ]],.il 1 [.int .i64 9]],.tup [.il 1 [.il 1 [.int .i64 0],.il 1 [.int .i64 4],.il 1 [.int .i64 8]],.int .i64 0])
theorem Ap:jM oI:=bS a7 (hX) (cI) (x4) iE iB h8 500 rfl (by kernel_rfl)
theorem xZ:dF prog gz (oI::(mR::(kR::(nF::(lU::(jS::(jH::(iQ::(g6::(gI::(fP::(fC::(eH::[]))))))))))))):=j5 Ap x4
set_option maxRecDepth 1000000
def s9:Nat × List AV × AV:=(130,[.agg [.il 12 [dZ]],.il 1 [.int .i64 8]],.tup [.nsl,.int .i64 0])
theorem Aq:jM s9:=bS a7 (hX) (cI) (xZ) iE iB h8 500 rfl (by kernel_rfl)
theorem xT:dF prog gz (s9::(oI::(mR::(kR::(nF::(lU::(jS::(jH::(iQ::(g6::(gI::(fP::(fC::(eH::[])))))))))))))):=j5 Aq xZ
set_option maxRecDepth 1000000
def wR:Nat × List AV × AV:=(82,[.agg [.il 12 [dZ]],.il 1 [.int .i64 8]],.tup [.il 1 [.il 1 [.int .i64 0],.il 1 [.int .i64 4],.il 1 [.int .i64 7]],.int .i64 0])
theorem AN:jM wR:=bS a7 (hX) (cI) (xT) iE iB h8 500 rfl (by kernel_rfl)
theorem xR:dF prog gz (wR::(s9::(oI::(mR::(kR::(nF::(lU::(jS::(jH::(iQ::(g6::(gI::(fP::(fC::(eH::[]))))))))))))))):=j5 AN xT
set_option maxRecDepth 1000000
def AR:Nat × List AV × AV:=(130,[.agg [.il 12 [dZ]],.il 1 [.int .i64 7]],.tup [.nsl,.int .i64 0])
theorem Ad:jM AR:=bS a7 (hX) (cI) (xR) iE iB h8 500 rfl (by kernel_rfl)
theorem yV:dF prog gz (AR::(wR::(s9::(oI::(mR::(kR::(nF::(lU::(jS::(jH::(iQ::(g6::(gI::(fP::(fC::(eH::[])))))))))))))))):=j5 Ad xR
set_option maxRecDepth 1000000
def DQ:Nat × List AV × AV:=(82,[.agg [.il 12 [dZ]],.il 1 [.int .i64 7]],.tup [.il 1 [.il 1 [.int .i64 0],.il 1 [.int .i64 3],.il 1 [.int .i64 6]],.int .i64 0])
theorem AE:jM DQ:=bS a7 (hX) (cI) (yV) iE iB h8 500 rfl (by kernel_rfl)
theorem C5:dF prog gz (DQ::(AR::(wR::(s9::(oI::(mR::(kR::(nF::(lU::(jS::(jH::(iQ::(g6::(gI::(fP::(fC::(eH::[]))))))))))))))))):=j5 AE yV
set_option maxRecDepth 1000000
set_option maxHeartbeats 16000000
def Ig:AV:=.agg [.il 12 [dZ]]
def AJ(n:Int):AV:=.agg [.il 1 [.int .i64 n],.int .i64 1,.int .i64 0,.int .i64 0]
def E6:AV:=.agg [.il 1 [.int .i64 7],.int .i64 1,.int .i64 0,.int .i64 0,.il 4 [AJ 9,AJ 50]]
def IJ:AV:=.fn (.func 31) [.agg [.int .i64 0,.int .i64 7]] []
theorem FV(n:Int):NN (AJ n):=.agg' (.cons (.il' (.cons nn .nil)) (.cons nn (.cons nn (.cons nn .nil))))
theorem FQ:NN E6:=.agg' (.cons (.il' (.cons nn .nil)) (.cons nn (.cons nn (.cons nn (.cons (.il' (.cons (FV 9) (.cons (FV 50) .nil))) .nil)))))
theorem z8:aS prog gz 30 [Ig,.il 4 [AJ 50,AJ 9],IJ,.int .i64 100] (.tup [.il 5 [E6],.int .i64 0]):=bS a7 hX cI C5 iE iB h8 500 rfl (by kernel_rfl)
theorem Ei:aS prog gz 7 [E6] (.str [102,97,105,108,101,100,32,48,32,48,58,32,55]):=bS a7 hX lJ.nil dF.nil iE iB h8 500 rfl (by kernel_rfl)
theorem Ek:aS prog gz 9 [.il 1 [.int .i64 7],.il 1 [.int .i64 7]] (.bool true):=bS a7 hX lJ.nil dF.nil iE iB h8 500 rfl (by kernel_rfl)
theorem Ej:aS prog gz 9 [.il 1 [.int .i64 9],.il 1 [.int .i64 9]] (.bool true):=bS a7 hX lJ.nil dF.nil iE iB h8 500 rfl (by kernel_rfl)
theorem I1(n:Int):NN (.il 1 [.int .i64 n]):=.il' (.cons nn .nil)
theorem EN:aS prog gz 11 [] (.bool true):=by
 refine aR a7 func11 rfl ?_;refine Rt ?_;have nG:NN (.il 5 [E6]):=.il' (.cons FQ .nil);have n0:NN dZ:=.agg' (.cons nn (.cons nn (.cons nn (.cons nn (.cons nn (.cons nn (.cons nn (.cons nn (.cons nn (.cons nn (.cons nn (.cons nn .nil))))))))))));refine aS.drop z8 a7 (.cons (.agg' (.cons (.fzR (id:=0) (ys:=[dZ]) rfl rfl (.cons (.same n0) .nil) rfl) .nil)) (.cons (.fzR (id:=6) (ys:=[AJ 50,AJ 9]) rfl rfl (.cons (.agg (.cons (.fzR (id:=4) (ys:=[.int .i64 50]) rfl rfl (.same (.cons nn .nil)) rfl) (.s (.s (.s .nil))))) (.cons (.agg (.cons (.fzR (id:=5) (ys:=[.int .i64 9]) rfl rfl (.same (.cons nn .nil)) rfl) (.s (.s (.s .nil))))) .nil)) rfl) (.cons (.same _ (.fn _ _ _ (fun j c h=>by
   match j,h with
   | 0,h=>simp at h;subst h;exact .agg' (.cons nn (.cons nn .nil))
   | j+1,h=>simp at h) (by simp))) (.s .nil)))) (.tup' (.cons nG (.cons nn .nil))) ?_
 refine Rt ?_;refine aS.lend Ek a7 (.cons (.same _ (I1 7)) (.cons (.fzR (id:=7) (ys:=[.int .i64 7]) rfl rfl (.same (.cons nn .nil)) rfl) .nil)) (.bool _) ?_;refine Rr ?_;refine aS.lend Ej a7 (.cons (.same _ (I1 9)) (.cons (.fzR (id:=8) (ys:=[.int .i64 9]) rfl rfl (.same (.cons nn .nil)) rfl) .nil)) (.bool _) ?_;refine Rr ?_;refine Ei.use a7 (.cons FQ .nil) (.str _) ?_;refine Rr ?_;exact aJ (.bool _) ⟨rfl,rfl,rfl⟩
set_option maxRecDepth 100000
set_option maxHeartbeats 16000000
def GK(g:Gr):Prop:=GB g/\A8 (aI g)
theorem G1{g:Gr}(h:F2 g):GK g:=⟨⟨by have:=h.2.1;omega,by have:=h.2.2.1;omega,fun f hf=>by have:=(h.2.2.2.1 f hf).2;omega⟩,h.1,h.2.2.2.2⟩
theorem GO{l:List Gr}(hl:∀g∈l,GK g)(hf:FT l<=1000000):∀g∈hU l,GK g:=fun g hg=>by
 obtain⟨m1,m2,m3⟩:=qC l;obtain⟨z,hz,e⟩:=(m2 (aI g)).1 ⟨g,hg,rfl⟩;have e1:z.min=g.min:=congrArg Prod.fst e;refine⟨⟨by rw[←e1];exact(hl z hz).1.min,by have:=(yQ l).2 g hg;omega,fun f hf'=>?_⟩,by rw[←e];exact(hl z hz).2⟩;obtain⟨y,hy,_,h2⟩:=(m3 (aI g) f).1 ⟨g,hg,rfl,hf'⟩;exact(hl y hy).1.path f h2
theorem Hz{l:List Gr}{b:Nat}(h:∀g∈l,g.fs.length<=b):FT l<=l.length*b:=by
 induction l with
 | nil=>simp[FT]
 | cons g l ih=>
  have h1:=sK [g] l;have h2:FT [g]=g.fs.length:=by simp[FT]
  have h3:=ih fun x hx=>h x (.tail _ hx)
  have h4:=h g (.head _);rw[List.singleton_append] at h1;rw[h1,h2,KH,Nat.add_mul];omega
set_option maxRecDepth 100000
set_option maxHeartbeats 16000000
theorem FG:Tryz.prog.eqGuardType Tryz.prog.depth 30=false:=by kernel_rfl
theorem HF(x y:Oc):(x.kind == y.kind && (x.at_ == y.at_ && (x.code == y.code && true)))=decide (x=y):=by
 obtain⟨a,b,c⟩:=x;obtain⟨d,e,f⟩:=y;rw[Bool.eq_iff_iff];simp
theorem GL{g h:Gr}(hg:A8 (aI g))(hh:A8 (aI h)):(dA (aI g) == dA (aI h))=(decide (g.min=h.min) && decide (g.oc=h.oc)):=by
 rw[Bool.eq_iff_iff];simp only[beq_iff_eq,JE,K9];constructor
 ·intro e;have:=sW hg hh e;exact⟨congrArg Prod.fst this,congrArg Prod.snd this⟩
 ·rintro⟨e1,e2⟩;have:aI g=aI h:=Prod.ext e1 e2;rw[this]
theorem D8{l:List Gr}{i:Nat}{a b:Gr}(ha:(hU l)[i]? = some a)(hb:(hU l)[i+1]? = some b)(h1:A8 (aI a))(h2:A8 (aI b)):(dA (aI a) == dA (aI b))=false:=by
 have hs:=(qC l).1.1;obtain⟨la,rfl⟩:=JC.1 ha;obtain⟨lb,rfl⟩:=JC.1 hb;have h3:=Jp.1 hs i (i+1) (by simp;omega) (by simp;omega) om;simp only[Kj] at h3;rw[beq_eq_false_iff_ne];intro e;rw[sW h1 h2 e,fQ.refl] at h3;omega
theorem B9(l:List Int)(hl:∀x∈l,i64 x)(hlen:l.length<=17592186043904):aS prog gz 3 [.il 1 (aY l)] (.bool true):=by
 have nl:NN (.il 1 (aY l)):=.il' (aU l);have hL:=Hs l hl hlen 10 (by decide);refine aR a7 func3 rfl ?_;refine Rr ?_;refine aC.useN a7 [] hL.glob rfl (.cons (.same _ nl) (.s .nil)) trivial rfl ?_;rintro r m k ⟨G,hG1,hG2,rfl,rfl,rfl⟩;have lG:=cG G;have nG:NN (.il 5 (a8 G)):=.il' (bI G);refine⟨[],.il 5 (a8 G),[],0,.fzR (id:=0) rfl rfl (.same (bI _)) lG,trivial,rfl, ?_⟩;have hK:∀g∈G,GK g:=fun g hg=>G1 (hG2 g hg)
 have hF:FT G<=30:=by
  have:=Hz (l:=G) (b:=3) fun g hg=>(hG2 g hg).2.2.1
  omega
 have hO:=IP G om fun g hg=>by have:=(hG2 g hg).2.2.1;omega
 refine Rr ?_;refine hO.goG ?_ (.cons nG .nil) nG;refine Rr ?_;refine bJ.at a7 (fun k:Nat=>k<=G.length) (fun k=>⟨[(3,.il 5 (a8 G)),(4,.il 5 (a8 G)),(5,.int .i64 k)],[],0,96⟩) (fun k=>G.length-k) 0 [] (by simp)
  (aV ⟨aT nG,aT nG,aK,trivial⟩) ?_
 intro i hi;refine Rr ?_;refine bV (fun hb=>?_) (fun hb=>?_)
 ·rw[hb];have hlt:i<G.length:=by have:=JV hb;omega
  have ei:=iK hlt;have hKi:=hK _ (JQ hlt);have k1:=Dg G[i] hKi.2 (by have:=hKi.1.min;omega);have k2:=Id G[i] hKi.2 (by have:=hKi.1.min;omega);have hself:(dA (aI G[i]) == dA (aI G[i]))=true:=beq_self_eq_true _;have hke:∀k (h:k<G.length),(dA (aI G[i]) == dA (aI G[k]))=(decide (G[i].min=G[k].min) && decide (G[i].oc=G[k].oc)):=fun k h=>GL hKi.2 (hK _ (JQ h)).2
  generalize hgi:G[i]=a at *;have na:=eI a;obtain⟨p,⟨o1,o2,o3⟩,fs⟩:=a;generalize hS:dA (aI ⟨p,⟨o1,o2,o3⟩,fs⟩)=S at *;refine Rr ?_;repeat((first|refine aD ei ?_|refine aH ?_);refine Rr ?_)
  refine k1.use a7 (.cons na .nil) nn ?_;refine Rr ?_;repeat((first|refine aD ei ?_|refine aH ?_);refine Rr ?_)
  refine k2.goG ?_ (.cons na .nil) nn;refine Rr ?_;repeat((first|refine aD ei ?_|refine aH ?_);refine Rr ?_)
  rw[hself];refine Rr ?_;refine bJ.at a7 (fun k:Nat=>k<=G.length) (fun k=>⟨[(3,.il 5 (a8 G)),(4,.il 5 (a8 G)),(5,.int .i64 i),(6,.int .i64 k)],[],0,96⟩) (fun k=>G.length-k) 0 [] (by simp)
   (aV ⟨aT nG,aT nG,aK,aK,trivial⟩) ?_
  intro k hk;refine Rr ?_;refine bV (fun hb=>?_) (fun hb=>?_)
  ·rw[hb];have hlk:k<G.length:=by have:=JV hb;omega
   have ek:=iK hlk;have hKk:=hK _ (JQ hlk);have k3:=Dg G[k] hKk.2 (by have:=hKk.1.min;omega);have hkk:=hke k hlk;generalize hgk:G[k]=b at *;have nb:=eI b;obtain⟨q,⟨u1,u2,u3⟩,gs⟩:=b;have hsi:=If p q (by have:=hKi.1.min;simp only at this;omega);have np:NN (.il 1 (aY p)):=.il' (aU p);have nq:NN (.il 1 (aY q)):=.il' (aU q);have he:=HF ⟨o1,o2,o3⟩ ⟨u1,u2,u3⟩;generalize hT:dA (aI ⟨q,⟨u1,u2,u3⟩,gs⟩)=T at *;refine Rr ?_;repeat((first|refine aD ei ?_|refine aD ek ?_|refine aH ?_);refine Rr ?_)
   refine hsi.goG ?_ (.cons np (.cons nq .nil)) nn;refine Rr ?_;repeat((first|refine aD ei ?_|refine aD ek ?_|refine aH ?_);refine Rr ?_)
   by_cases hpq:p=q
   ·rw[JX hpq];refine Rr ?_;repeat((first|refine aD ei ?_|refine aD ek ?_|refine aH ?_);refine Rr ?_)
    rw[FG];refine Rr ?_;repeat((first|refine aD ei ?_|refine aD ek ?_|refine aH ?_);refine Rr ?_)
    refine k1.use a7 (.cons na .nil) nn ?_;refine Rr ?_;repeat((first|refine aD ei ?_|refine aD ek ?_|refine aH ?_);refine Rr ?_)
    refine k3.use a7 (.cons nb .nil) nn ?_;refine Rr ?_;repeat((first|refine aD ei ?_|refine aD ek ?_|refine aH ?_);refine Rr ?_)
    have hxx:(S == T)=(o1 == u1 && (o2 == u2 && (o3 == u3 && true))):=by
     rw[hkk];have:(decide (p=q) && decide ((⟨o1,o2,o3⟩:Oc)=⟨u1,u2,u3⟩))=decide ((⟨o1,o2,o3⟩:Oc)=⟨u1,u2,u3⟩):=by rw[JX hpq];rfl
     exact this.trans he.symm
    refine bV (fun h=>?_) (fun h=>?_)
    ·have h:(!((S == T) == (o1 == u1 && (o2 == u2 && (o3 == u3 && true)))))=true:=h;rw[hxx,beq_self_eq_true] at h;cases h
    rw[h];refine Rr ?_;exact .mk (k+1) [] om (aV ⟨aT nG,aT nG,aK,⟨_,rfl,.w64 om ⟨om,om⟩⟩,trivial⟩) om
   ·rw[JZ hpq];refine Rr ?_;repeat((first|refine aD ei ?_|refine aD ek ?_|refine aH ?_);refine Rr ?_)
    refine k1.use a7 (.cons na .nil) nn ?_;refine Rr ?_;repeat((first|refine aD ei ?_|refine aD ek ?_|refine aH ?_);refine Rr ?_)
    refine k3.use a7 (.cons nb .nil) nn ?_;refine Rr ?_;repeat((first|refine aD ei ?_|refine aD ek ?_|refine aH ?_);refine Rr ?_)
    have hxx:(S == T)=false:=by
     rw[hkk];have:(decide (p=q) && decide ((⟨o1,o2,o3⟩:Oc)=⟨u1,u2,u3⟩))=false:=by rw[JZ hpq];rfl
     exact this
    rw[hxx];refine Rr ?_;exact .mk (k+1) [] om (aV ⟨aT nG,aT nG,aK,⟨_,rfl,.w64 om ⟨om,om⟩⟩,trivial⟩) om
  ·rw[hb];refine Rr ?_;exact .mk (i+1) [] om (aV ⟨aT nG,aT nG,⟨_,rfl,.w64 om ⟨om,om⟩⟩,trivial⟩) om
 ·rw[hb];have hM:=GM [G] (fun g hg=>hK g (by simpa using hg)) (by simp;omega) (by simp;omega) (by simp);have hg1:=GO hK om;have hmk:∀(j:Nat) (a b:Gr),(hU G)[j]? = some a->(hU G)[j+1]? = some b->A8 (aI a)->A8 (aI b)->(dA (aI a) == dA (aI b))=false:=fun j a b h h'=>D8 h h'
  obtain⟨q1,q2⟩:=yQ G;have e1:[G].flatten=G:=by simp
  rw[e1] at hM;have c1:g8 [G]=[.il 5 (a8 G)]:=rfl;rw[c1] at hM;have nW:=bI (hU G);have lW:=cG (hU G);refine Rr ?_;refine aC.pre a7 [] (mem':=[]) rfl trivial (.cons (.fzR (id:=0) rfl rfl (.same (.cons nG .nil)) rfl) .nil) ?_;refine hM.use a7 (.cons (.il' (.cons nG .nil)) .nil) (.il' nW) ?_;generalize hU G=W at *;refine Rr ?_;refine bJ.at a7 (fun k:Nat=>1<=k/\(k<=W.length∨k=1)) (fun k=>⟨[(8,.il 5 (a8 W)),(9,.int .i64 k)],[],0,96⟩) (fun k=>W.length-k) 1 [] (by simp)
   (aV ⟨aT (.il' nW),aK,trivial⟩) ?_
  rintro k ⟨hk0,hk⟩;refine Rr ?_;refine bV (fun hb=>?_) (fun hb=>?_)
  ·rw[hb];have hlk:k<W.length:=by have:=JV hb;omega
   obtain⟨j,rfl⟩:∃j,k=j+1:=⟨k-1,om⟩
   have ej:=iK (show j<W.length by omega);have ek:=iK hlk;have hKj:=hg1 _ (JQ (show j<W.length by omega));have hKk:=hg1 _ (JQ hlk);have k1:=Dg W[j] hKj.2 (by have:=hKj.1.min;omega);have k2:=Dg W[j+1] hKk.2 (by have:=hKk.1.min;omega);have hne:=hmk j W[j] W[j+1] (I9 _) (I9 _) hKj.2 hKk.2;have hw:IntKind.i64.wrap (((j+1:Nat):Int)-1)=((j:Nat):Int):=by rw[dI ⟨om,om⟩];omega
   generalize hgj:W[j]=a at *;generalize hgk:W[j+1]=b at *;have na:=eI a;have nb:=eI b;obtain⟨p,⟨o1,o2,o3⟩,fs⟩:=a;obtain⟨q,⟨u1,u2,u3⟩,gs⟩:=b;generalize hS:dA (aI ⟨p,⟨o1,o2,o3⟩,fs⟩)=S at *;generalize hT:dA (aI ⟨q,⟨u1,u2,u3⟩,gs⟩)=T at *;refine Rr ?_;rw[hw];refine Rr ?_;repeat((first|refine aD ej ?_|refine aD ek ?_|refine aH ?_);refine Rr ?_)
   refine k1.use a7 (.cons na .nil) nn ?_;refine Rr ?_;repeat((first|refine aD ej ?_|refine aD ek ?_|refine aH ?_);refine Rr ?_)
   refine k2.use a7 (.cons nb .nil) nn ?_;refine Rr ?_;repeat((first|refine aD ej ?_|refine aD ek ?_|refine aH ?_);refine Rr ?_)
   rw[hne];refine Rr ?_;exact .mk (j+2) [] om (aV ⟨aT (.il' nW),⟨_,rfl,.w64 om ⟨om,om⟩⟩,trivial⟩) om
  ·rw[hb];refine Rr ?_;refine EN.use a7 .nil nn ?_;refine Rr ?_;exact aJ nn ⟨rfl,rfl,rfl⟩
end Go.Proofs.YtnbkfjjdlofdpaaGreatDoor
namespace Go.Proofs.YtnbkfjjdlofdpaaGreatDoor.GroupKeys
open Go.ChangeShapes Go.WideShapes Go.ChangeAt Go.RowKit Go.Lib Go.Ax
set_option maxHeartbeats 16000000
theorem own:ownKnob Tryz.prog.godebug=none:=by kernel_rfl
theorem laidOut:laidOutB Tryz.prog=true:=by kernel_rfl
theorem cells3:Tryz.prog.cellsOf 3=1:=by kernel_rfl
theorem bytes3:Tryz.prog.bytesOf 3=8:=by kernel_rfl
theorem gNameP:Tryz.prog.globalNamed "internal/strconv.uint64pow10" = some 0:=by kernel_rfl
theorem gNameB:Tryz.prog.globalNamed "math/bits.deBruijn32tab" = some 1:=by kernel_rfl
theorem gNameC:Tryz.prog.globalNamed "math/bits.deBruijn64tab" = some 2:=by kernel_rfl
theorem gTypeP:(Tryz.prog.globals[0]?).map (·.type)=some 168:=by kernel_rfl
theorem gTypeB:(Tryz.prog.globals[1]?).map (·.type)=some 209:=by kernel_rfl
theorem gTypeC:(Tryz.prog.globals[2]?).map (·.type)=some 210:=by kernel_rfl
theorem cellsU:Tryz.prog.cellsOf 110=1:=by kernel_rfl
theorem cellsB:Tryz.prog.cellsOf 5=1:=by kernel_rfl
theorem cellsP:Tryz.prog.cellsOf 168=20:=by kernel_rfl
theorem cellsQ:Tryz.prog.cellsOf 209=32:=by kernel_rfl
theorem cellsR:Tryz.prog.cellsOf 210=64:=by kernel_rfl
def pows:List Int:=[1,10,100,1000,10000,100000,1000000,10000000,100000000,1000000000,10000000000,100000000000,1000000000000,10000000000000,100000000000000,1000000000000000,10000000000000000,100000000000000000,1000000000000000000,10000000000000000000]
def tabB:List Int:=[0,1,28,2,29,14,24,3,30,22,20,15,25,17,4,8,31,27,13,23,21,19,16,7,26,12,18,6,11,5,10,9]
def tabC:List Int:=[0,1,56,2,57,49,28,3,61,58,42,50,38,29,17,4,62,47,59,36,45,43,51,22,53,39,33,30,24,18,12,5,63,55,48,27,60,41,37,16,46,35,44,21,52,32,23,11,54,26,40,15,34,20,31,10,25,14,19,9,13,8,7,6]
theorem vars{W:World}(h:laidMetH Tryz.prog Rows.groupKeysRow.laid W):∀p∈gz,VR (fun _=>⟨0,0,0⟩) (fun _=>False) (OX (fun _=>False) (fun _=>⟨0,0,0⟩) []) W (.ip p.2) (.pointer (some ⟨p.1,0,none⟩)):=by
 have h:laidMet Tryz.prog Rows.groupKeysRow.laid W:=h
 have hP:=tabIs_of_head (k:=.u64) (zs:=pows) gNameP gTypeP Tryz.underlying168 Tryz.underlying110 cellsU cellsP h.tail.tail
 have hB:=tabIs_of_head (k:=.u8) (zs:=tabB) gNameB gTypeB Tryz.underlying209 Tryz.underlying5 cellsB cellsQ h
 have hC:=tabIs_of_head (k:=.u8) (zs:=tabC) gNameC gTypeC Tryz.underlying210 Tryz.underlying5 cellsB cellsR h.tail
 intro p hp
 simp only[gz,List.mem_cons,List.not_mem_nil,or_false] at hp
 rcases hp with rfl|rfl|rfl
 ·exact mB gNameP hP
 ·exact mB gNameB hB
 ·exact mB gNameC hC
set_option maxRecDepth 100000 in
theorem contract(H:Type)(enc:TypeId × Value→H)(W:World)(base:Nat)(args:Array Value)(ds gs:List (DataW H))(before:List MemPlace)
  (hval:∀(j:Nat) t v,Tryz.f3.params[j]? = some t→args[j]? = some v→Value.okWide Tryz.prog W .any base t v)
  (hW:DataW.Whole enc Tryz.prog Tryz.f3.params.toList Rows.groupKeysSpec.vars false W args.toList ds gs before) (hL:laidMetH Tryz.prog Rows.groupKeysRow.laid W) (vt:List TypeId) (hsz:(DataW.weightsEach Tryz.prog (Tryz.f3.params.toList++vt) (ds++gs)).all (· ≤ reachBytes)=true) :
  Calls Tryz.prog 3 args W fun e W'=>∃v,e = .returned v∧Rows.groupKeysSpec.post enc Tryz.prog Tryz.f3 false true false false W args v W':=by
 have hW':=hW
 obtain⟨p,q,hA0,hV,rfl,hfz,hnd⟩:=hW
 have hA:DataW.TrodAll enc Tryz.prog W 0 (fun _=>true) true Tryz.f3.params.toList args.toList ds p:=hA0
 rw[Tryz.params3] at hA hval
 rw[Tryz.params3] at hsz
 obtain⟨v0,vs0,d0,ds0,p0,q0,hargs,rfl,rfl,h0,r0⟩:=trodAll_cons hA
 obtain⟨rfl,rfl,rfl⟩:=trodAll_nil r0
 obtain rfl:args = #[v0]:=by cases args;simp_all
 obtain⟨rfl,rfl⟩:=trodVars_none hV
 have hw0:(d0.weights Tryz.prog 22).all (· ≤ reachBytes)=true:=vG (hsz)
 have h0k:=h0
 obtain⟨x0,b0,e0,s0⟩:=AS Tryz.underlying22 Tryz.underlying3 cells3 bytes3 (hval 0 22 v0 rfl rfl) h0 hw0
 clear hA0
 refine((B9 x0 b0 s0).callsG W [v0] (vars hL) (.cons e0 .nil)).mono ?_
 rintro e W' ⟨rfl,hk⟩
 refine⟨_,rfl,_,_,_,[],p0++[],[],hW', ?_, ?_, ?_,hk.frame _,fun h=>by cases h⟩
 ·exact trodAll_cons_mk (shut_bool Tryz.underlying4 _) trodAll_mk0
 ·exact trodAll_cons_mk (AU.trod laidOut (by kernel_rfl) (of_decide_eq_true (by kernel_rfl)) h0k hk) trodAll_mk0
 ·rfl
noncomputable def laidWorld(os:Os):World:=
 let w0:=World.holding Tryz.prog os ⟨#[],#[],[]⟩
 let put (h:Array Obj) (g:Nat) (cs:Array Value):Array Obj:=h.modify g fun
  | .cells _ t frozen=>.cells cs t frozen
  | o=>o
 let nums (d:DataW Unit):Array Value:=match d with
  | .agg ds=>(ds.map fun
   | .lit (.int k n)=>Value.int k n
   | _=>.bool false).toArray
  | _=>#[]
 let h1:=put w0.heap 0 (nums Rows.laid_internal_strconv_uint64pow10)
 let h2:=put h1 1 (nums Rows.laid_math_bits_deBruijn32tab)
 let h3:=put h2 2 (nums Rows.laid_math_bits_deBruijn64tab)
 { w0 with heap:=h3 }
theorem laid_met(os:Os)(args:Array Value):laidMet Tryz.prog Rows.groupKeysRow.laid ((laidWorld os).forCall (fun _ _=>0) ⟨#[],args,[]⟩).memory:=
 (LaidIn.of_run (l:=Rows.groupKeysRow.laid) [0,1,2] 8 (by kernel_rfl) (by kernel_rfl) (by kernel_rfl) (by kernel_rfl)).met
noncomputable abbrev wargs:Array Value:=#[.slice none 0 0]
theorem reads(os:Os){H:Type}(enc:TypeId × Value→H):∃places,DataW.whole enc Tryz.prog ((laidWorld os).forCall (fun _ _=>0) ⟨#[],wargs,[]⟩).memory Tryz.f3.params.toList Rows.groupKeysSpec.vars false wargs.toList 8=some ([.nil],[],places):=
 ⟨[],by kernel_rfl⟩
set_option maxRecDepth 100000 in
theorem lifted(os:Os)(started:os.Started)(H:Type)(enc:TypeId × Value→H)(F:Stop.Interp) :
  ReturnsInHanded {} Tryz.checked os 3 .any ((OpenSpec.ofChange Rows.groupKeysSpec).preRow enc Tryz.prog Tryz.f3 Rows.groupKeysRow.domain false Rows.groupKeysRow.laid) (((OpenSpec.ofChange Rows.groupKeysSpec).at F).post enc Tryz.prog Tryz.f3 false true false false):=by
 obtain⟨places,hx⟩:=reads os enc
 refine returnsInHanded_of_row (C:=Tryz.checked) (s:=OpenSpec.ofChange Rows.groupKeysSpec) own started (by kernel_rfl) Tryz.func3
  (witness_row_atRef (enc:=enc) (C:=Tryz.checked) false (laidWorld os) wargs rfl (by kernel_rfl) (by kernel_rfl) (by kernel_rfl)
   (OpenSpec.preRow_of_cond 8 hx (by kernel_rfl) (fun k hk=>by cases hk) (by kernel_rfl) (laid_met os _))) ?_
 intro W base args ds gs before hval hW _ _ hsz hL _ _
 exact contract H enc W base args ds gs before hval hW hL _ hsz
theorem said:Rows.GroupKeysSaid:=
 OpenClaim.holds_of_cond 3 Tryz.f3 rfl rfl rfl rfl rfl rfl rfl ⟨rfl,rfl,rfl,rfl,rfl⟩ rfl rfl rfl rfl rfl (by as_aux_lemma=>kernel_rfl) Tryz.func3 (by unfold joinedFacts;simp only[Bool.and_eq_true];(repeat' apply And.intro);all_goals (as_aux_lemma=>kernel_rfl))
  (of_decide_eq_true (by as_aux_lemma=>kernel_rfl)) (by unfold Func.isWrapper;first|(rw[if_pos (by as_aux_lemma=>decide +kernel)];as_aux_lemma=>kernel_rfl)|(rw[if_neg (by as_aux_lemma=>decide +kernel)];exact⟨rfl,rfl⟩))
  (fun os started H enc _ F=>by rw[OpenClaim.pre_eq_preRow];exact lifted os started H enc F)
theorem plain(f:FuncId)(fn:Func)(hf:Tryz.pinned.checked.prog.funcNamed "refuter/refuterlaw34.GroupKeys" = some f)(hfn:Tryz.pinned.checked.prog.funcs[f]? = some fn) :
  true=Tryz.pinned.checked.prog.looks []∧∀(j:Nat) t,fn.params[j]? = some t→Tryz.pinned.checked.prog.wantsStandIn t=false:=by
 obtain rfl:f=3:=Option.some.inj ((show Tryz.prog.funcNamed "refuter/refuterlaw34.GroupKeys" = some 3 by kernel_rfl).symm.trans hf) |>.symm
 obtain rfl:fn=Tryz.f3:=(Option.some.inj (Tryz.func3.symm.trans hfn)).symm
 refine⟨by kernel_rfl,fun j t ht=>?_⟩
 rw[Tryz.params3] at ht
 have hTI:Tryz.prog.wantsStandIn 22=false:=by kernel_rfl
 have hm:=Array.mem_of_getElem? ht
 simp at hm
 repeat' (first|(rw[(hm:t=22)];exact hTI)|rcases hm with hm|hm)
theorem card:Rows.GroupKeysCardSaid:=
 Claim7.holds_tied_plain_at .later [] _ _ _ _ said (fun _ h=>by cases h) (by kernel_rfl) (fun _ h=>by cases h) groupKeys_row_tie rfl ⟨rfl,rfl⟩ (by kernel_rfl) rfl plain (by kernel_rfl)
end Go.Proofs.YtnbkfjjdlofdpaaGreatDoor.GroupKeys
