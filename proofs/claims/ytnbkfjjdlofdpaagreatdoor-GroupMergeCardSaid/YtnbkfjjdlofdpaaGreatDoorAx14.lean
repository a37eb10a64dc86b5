/- For every input (a slice of ints and a cut), refuterlaw34.GroupMerge returns true, and its arguments read behind the call as they read before (the card GroupMergeCardSaid, the full form). Conditions: the package-level variables that the row lists hold, when the call begins, what the program's text lays (the card ties them to it); no bound on sizes. -/
import Derived.Test.YtnbkfjjdlofdpaaGreatDoorAx13
import Derived.Test.YtnbkfjjdlofdpaaGreatDoorCards
import Derived.Test.YtnbkfjjdlofdpaaGreatDoorTie
import Derived.Lib.LaidIn
set_option linter.unusedVariables false
set_option linter.unusedSimpArgs false
set_option linter.unusedSectionVars false
namespace Go.Proofs.YtnbkfjjdlofdpaaGreatDoor
end Go.Proofs.YtnbkfjjdlofdpaaGreatDoor
namespace Go.Proofs.YtnbkfjjdlofdpaaGreatDoor
open Go Go.Ax Go.Proofs Tryz
def eB:AV:=.agg [.int .i64 1,.str [],.int .i64 0,.int .i64 100,.nsl,.nsl,.nsl,.nsl,.int .i64 0,.int .i64 0,.str [],.nsl]
def iH:List Nat:=[103,44]
def iL:List Nat:=[41,42,130,82,7,23,43,44,31]
def iN:List Nat:=[]
def j5(e:Nat × List AV × AV):Prop:=aR prog gz e.1 e.2.1 e.2.2
theorem kT{e:Nat × List AV × AV}{t:List (Nat × List AV × AV)}(h:j5 e)(ht:dJ prog gz t)(h1:nS (frz 30 [] []) e.2.1=some e.2.1:=by rfl)(h2:frz 30 [] [] e.2.2=some e.2.2:=by rfl):dJ prog gz (e::t):=dJ.cons h h1 h2 ht
set_option maxRecDepth 1000000
def eJ:Nat × List AV × AV:=(41,[.agg [.il 12 [eB]]],.int .i64 0)
theorem u5:j5 eJ:=bT bE (iP) (lX.nil) (dJ.nil) iH iL iN 500 rfl (by kernel_rfl)
theorem cL:lX prog gz (eJ::[]):=lX.cons u5 (by first|exact .int _ _|exact .bool _|exact .str _) lX.nil
theorem Bk:dJ prog gz (eJ::[]):=kT u5 dJ.nil
set_option maxRecDepth 1000000
def fY:Nat × List AV × AV:=(42,[.agg [.il 12 [eB]],.il 1 [.int .i64 50]],.tup [.agg [.int .i64 0,.int .i64 50,.str [],.nsl],.int .i64 0])
theorem Ck:j5 fY:=bT bE (iP) (cL) (Bk) iH iL iN 500 rfl (by kernel_rfl)
theorem Ba:dJ prog gz (fY::(eJ::[])):=kT Ck Bk
set_option maxRecDepth 1000000
def gC:Nat × List AV × AV:=(42,[.agg [.il 12 [eB]],.il 1 [.int .i64 9]],.tup [.agg [.int .i64 0,.int .i64 9,.str [],.nsl],.int .i64 0])
theorem Cc:j5 gC:=bT bE (iP) (cL) (Ba) iH iL iN 500 rfl (by kernel_rfl)
theorem BT:dJ prog gz (gC::(fY::(eJ::[]))):=kT Cc Ba
set_option maxRecDepth 1000000
def gX:Nat × List AV × AV:=(130,[.agg [.il 12 [eB]],.il 1 [.int .i64 25]],.tup [.nsl,.int .i64 0])
theorem CB:j5 gX:=bT bE (iP) (cL) (BT) iH iL iN 500 rfl (by kernel_rfl)
theorem BB:dJ prog gz (gX::(gC::(fY::(eJ::[])))):=kT CB BT
set_option maxRecDepth 1000000
def iE:Nat × List AV × AV:=(82,[.agg [.il 12 [eB]],.il 1 [.int .i64 25]],.tup [.il 1 [.il 1 [.int .i64 0],.il 1 [.int .i64 12],.il 1 [.int .i64 24]],.int .i64 0])
theorem B9:j5 iE:=bT bE (iP) (cL) (BB) iH iL iN 500 rfl (by kernel_rfl)
theorem B0:dJ prog gz (iE::(gX::(gC::(fY::(eJ::[]))))):=kT B9 BB
set_option maxRecDepth 1000000
def iR:Nat × List AV × AV:=(130,[.agg [.il 12 [eB]],.il 1 [.int .i64 12]],.tup [.nsl,.int .i64 0])
theorem CI:j5 iR:=bT bE (iP) (cL) (B0) iH iL iN 500 rfl (by kernel_rfl)
theorem By:dJ prog gz (iR::(iE::(gX::(gC::(fY::(eJ::[])))))):=kT CI B0
set_option maxRecDepth 1000000
def jX:Nat × List AV × AV:=(82,[.agg [.il 12 [eB]],.il 1 [.int .i64 12]],.tup [.il 1 [.il 1 [.int .i64 0],.il 1 [.int .i64 6],.il 1 [.int .i64 11]],.int .i64 0])
theorem CN:j5 jX:=bT bE (iP) (cL) (By) iH iL iN 500 rfl (by kernel_rfl)
theorem BW:dJ prog gz (jX::(iR::(iE::(gX::(gC::(fY::(eJ::[]))))))):=kT CN By
set_option maxRecDepth 1000000
def kI:Nat × List AV × AV:=(130,[.agg [.il 12 [eB]],.il 1 [.int .i64 11]],.tup [.nsl,.int .i64 0])
theorem Cd:j5 kI:=bT bE (iP) (cL) (BW) iH iL iN 500 rfl (by kernel_rfl)
theorem Bn:dJ prog gz (kI::(jX::(iR::(iE::(gX::(gC::(fY::(eJ::[])))))))):=kT Cd BW
set_option maxRecDepth 1000000
def lZ:Nat × List AV × AV:=(82,[.agg [.il 12 [eB]],.il 1 [.int .i64 11]],.tup [.il 1 [.il 1 [.int .i64 0],.il 1 [.int .i64 5],.il 1 [.int .i64 10]],.int .i64 0])
theorem CF:j5 lZ:=bT bE (iP) (cL) (Bn) iH iL iN 500 rfl (by kernel_rfl)
theorem BZ:dJ prog gz (lZ::(kI::(jX::(iR::(iE::(gX::(gC::(fY::(eJ::[]))))))))):=kT CF Bn
set_option maxRecDepth 1000000
def nZ:Nat × List AV × AV:=(130,[.agg [.il 12 [eB]],.il 1 [.int .i64 10]],.tup [.nsl,.int .i64 0])
theorem CL:j5 nZ:=bT bE (iP) (cL) (BZ) iH iL iN 500 rfl (by kernel_rfl)
theorem Bh:dJ prog gz (nZ::(lZ::(kI::(jX::(iR::(iE::(gX::(gC::(fY::(eJ::[])))))))))):=kT CL BZ
set_option maxRecDepth 1000000
def kR:Nat × List AV × AV:=(82,[.agg [.il 12 [eB]],.il 1 [.int .i64 10]],.tup [.il 1 [.il 1 [.int .i64 0],.il 1 [.int .i64 5],.il 1 [.int .i64 9]],.int .i64 0])
theorem Ae:j5 kR:=bT bE (iP) (cL) (Bh) iH iL iN 500 rfl (by kernel_rfl)
theorem zL:dJ prog gz (kR::(nZ::(lZ::(kI::(jX::(iR::(iE::(gX::(gC::(fY::(eJ::[]))))))))))):=kT Ae Bh
set_option maxRecDepth 1000000
def mP:Nat × List AV × AV:=(130,[.agg [.il 12 [eB]],.il 1 [.int .i64 9]],.tup [.nsl,.int .i64 0])
theorem A3:j5 mP:=bT bE (iP) (cL) (zL) iH iL iN 500 rfl (by kernel_rfl)
theorem zH:dJ prog gz (mP::(kR::(nZ::(lZ::(kI::(jX::(iR::(iE::(gX::(gC::(fY::(eJ::[])))))))))))):=kT A3 zL
set_option maxRecDepth 1000000
def pE:Nat × List AV × AV:=(82,[.agg [.il 12 [eB]],.il 1 [.int .i64 9]],.tup [.il 1 [.il 1 [.int .i64 0],.il 1 [.int .i64 4],.il 1 [.int .i64 8]],.int .i64 0])
theorem AR:j5 pE:=bT bE (iP) (cL) (zH) iH iL iN 500 rfl (by kernel_rfl)
theorem yW:dJ prog gz (pE::(mP::(kR::(nZ::(lZ::(kI::(jX::(iR::(iE::(gX::(gC::(fY::(eJ::[]))))))))))))):=kT AR zH
set_option maxRecDepth 1000000
def tQ:Nat × List AV × AV:=(130,[.agg [.il 12 [eB]],.il 1 [.int .i64 8]],.tup [.nsl,.int .i64 0])
theorem AX:j5 tQ:=bT bE (iP) (cL) (yW) iH iL iN 500 rfl (by kernel_rfl)
theorem xT:dJ prog gz (tQ::(pE::(mP::(kR::(nZ::(lZ::(kI::(jX::(iR::(iE::(gX::(gC::(fY::(eJ::[])))))))))))))):=kT AX yW
set_option maxRecDepth 1000000
def wO:Nat × List AV × AV:=(82,[.agg [.il 12 [eB]],.il 1 [.int .i64 8]],.tup [.il 1 [.il 1 [.int .i64 0],.il 1 [.int .i64 4],.il 1 [.int .i64 7]],.int .i64 0])
theorem Ad:j5 wO:=bT bE (iP) (cL) (xT) iH iL iN 500 rfl (by kernel_rfl)
theorem AA:dJ prog gz (wO::(tQ::(pE::(mP::(kR::(nZ::(lZ::(kI::(jX::(iR::(iE::(gX::(gC::(fY::(eJ::[]))))))))))))))):=kT Ad xT
set_option maxRecDepth 1000000
def Ay:Nat × List AV × AV:=(130,[.agg [.il 12 [eB]],.il 1 [.int .i64 7]],.tup [.nsl,.int .i64 0])
theorem AY:j5 Ay:=bT bE (iP) (cL) (AA) iH iL iN 500 rfl (by kernel_rfl)
theorem xS:dJ prog gz (Ay::(wO::(tQ::(pE::(mP::(kR::(nZ::(lZ::(kI::(jX::(iR::(iE::(gX::(gC::(fY::(eJ::[])))))))))))))))):=kT AY AA
set_option maxRecDepth 1000000
def Dr:Nat × List AV × AV:=(82,[.agg [.il 12 [eB]],.il 1 [.int .i64 7]],.tup [.il 1 [.il 1 [.int .i64 0],.il 1 [.int .i64 3],.il 1 [.int .i64 6]],.int .i64 0])
theorem Aw:j5 Dr:=bT bE (iP) (cL) (xS) iH iL iN 500 rfl (by kernel_rfl)
theorem ED:dJ prog gz (Dr::(Ay::(wO::(tQ::(pE::(mP::(kR::(nZ::(lZ::(kI::(jX::(iR::(iE::(gX::(gC::(fY::(eJ::[]))))))))))))))))):=kT Aw xS
set_option maxRecDepth 1000000
set_option maxHeartbeats 16000000
def Ib:AV:=.agg [.il 12 [eB]]
def AI(n:Int):AV:=.agg [.il 1 [.int .i64 n],.int .i64 1,.int .i64 0,.int .i64 0]
def Eh:AV:=.agg [.il 1 [.int .i64 7],.int .i64 1,.int .i64 0,.int .i64 0,.il 4 [AI 9,AI 50]]
def Ig:AV:=.fn (.func 31) [.agg [.int .i64 0,.int .i64 7]] []
theorem Fy(n:Int):NN (AI n):=.agg' (.cons (.il' (.cons nn .nil)) (.cons nn (.cons nn (.cons nn .nil))))
theorem Fx:NN Eh:=.agg' (.cons (.il' (.cons nn .nil)) (.cons nn (.cons nn (.cons nn (.cons (.il' (.cons (Fy 9) (.cons (Fy 50) .nil))) .nil)))))
theorem AC:aR prog gz 30 [Ib,.il 4 [AI 50,AI 9],Ig,.int .i64 100] (.tup [.il 5 [Eh],.int .i64 0]):=bT bE iP cL ED iH iL iN 500 rfl (by kernel_rfl)
theorem FQ:aR prog gz 7 [Eh] (.str [102,97,105,108,101,100,32,48,32,48,58,32,55]):=bT bE iP lX.nil dJ.nil iH iL iN 500 rfl (by kernel_rfl)
theorem EW:aR prog gz 9 [.il 1 [.int .i64 7],.il 1 [.int .i64 7]] (.bool true):=bT bE iP lX.nil dJ.nil iH iL iN 500 rfl (by kernel_rfl)
theorem Et:aR prog gz 9 [.il 1 [.int .i64 9],.il 1 [.int .i64 9]] (.bool true):=bT bE iP lX.nil dJ.nil iH iL iN 500 rfl (by kernel_rfl)
theorem JD(n:Int):NN (.il 1 [.int .i64 n]):=.il' (.cons nn .nil)
theorem En:aR prog gz 11 [] (.bool true):=by
 refine aN bE func11 rfl ?_;refine Rt ?_;have nG:NN (.il 5 [Eh]):=.il' (.cons Fx .nil);have n0:NN eB:=.agg' (.cons nn (.cons nn (.cons nn (.cons nn (.cons nn (.cons nn (.cons nn (.cons nn (.cons nn (.cons nn (.cons nn (.cons nn .nil))))))))))));refine aR.drop AC bE (.cons (.agg' (.cons (.fzR (id:=0) (ys:=[eB]) rfl rfl (.cons (.same n0) .nil) rfl) .nil)) (.cons (.fzR (id:=6) (ys:=[AI 50,AI 9]) rfl rfl (.cons (.agg (.cons (.fzR (id:=4) (ys:=[.int .i64 50]) rfl rfl (.same (.cons nn .nil)) rfl) (.s (.s (.s .nil))))) (.cons (.agg (.cons (.fzR (id:=5) (ys:=[.int .i64 9]) rfl rfl (.same (.cons nn .nil)) rfl) (.s (.s (.s .nil))))) .nil)) rfl) (.cons (.same _ (.fn _ _ _ (fun j c h=>by
   match j,h with
   | 0,h=>simp at h;subst h;exact .agg' (.cons nn (.cons nn .nil))
   | j+1,h=>simp at h) (by simp))) (.s .nil)))) (.tup' (.cons nG (.cons nn .nil))) ?_
 refine Rt ?_;refine aR.lend EW bE (.cons (.same _ (JD 7)) (.cons (.fzR (id:=7) (ys:=[.int .i64 7]) rfl rfl (.same (.cons nn .nil)) rfl) .nil)) (.bool _) ?_;refine Rr ?_;refine aR.lend Et bE (.cons (.same _ (JD 9)) (.cons (.fzR (id:=8) (ys:=[.int .i64 9]) rfl rfl (.same (.cons nn .nil)) rfl) .nil)) (.bool _) ?_;refine Rr ?_;refine FQ.use bE (.cons Fx .nil) (.str _) ?_;refine Rr ?_;exact aJ (.bool _) ⟨rfl,rfl,rfl⟩
set_option maxRecDepth 100000
set_option maxHeartbeats 16000000
def GK(g:Gr):Prop:=GB g/\Gs (aT g)
theorem HI{g:Gr}(h:GM g):GK g:=⟨⟨by have:=h.2.1;omega,by have:=h.2.2.1;omega,fun f hf=>by have:=(h.2.2.2.1 f hf).2;omega⟩,h.1,h.2.2.2.2⟩
theorem Dl{l:List Gr}(hl:∀g∈l,GK g)(hf:FT l<=1000000):∀g∈bJ l,GK g:=fun g hg=>by
 obtain⟨m1,m2,m3⟩:=jE l;obtain⟨z,hz,e⟩:=(m2 (aT g)).1 ⟨g,hg,rfl⟩;have e1:z.min=g.min:=congrArg Prod.fst e;refine⟨⟨by rw[←e1];exact(hl z hz).1.min,by have:=(nM l).2 g hg;omega,fun f hf'=>?_⟩,by rw[←e];exact(hl z hz).2⟩;obtain⟨y,hy,_,h2⟩:=(m3 (aT g) f).1 ⟨g,hg,rfl,hf'⟩;exact(hl y hy).1.path f h2
theorem EB{l:List Gr}{b:Nat}(h:∀g∈l,g.fs.length<=b):FT l<=l.length*b:=by
 induction l with
 | nil=>simp[FT]
 | cons g l ih=>
  have h1:=jL [g] l;have h2:FT [g]=g.fs.length:=by simp[FT]
  have h3:=ih fun x hx=>h x (.tail _ hx)
  have h4:=h g (.head _);rw[List.singleton_append] at h1;rw[h1,h2,Kc,Nat.add_mul];omega
theorem mY(l:List Gr)(k:Nat):aD (l.take k)=(aD l).take k:=by simp[aD,List.map_take]
theorem s8(l:List Gr)(k:Nat):aD (l.drop k)=(aD l).drop k:=by simp[aD,List.map_drop]
theorem A7(l:List Int)(cut:Int)(hl:∀x∈l,i64 x)(hc:i64 cut)(hlen:l.length<=17592186043904):aR prog gz 4 [.il 1 (a6 l),.int .i64 cut] (.bool true):=by
 have nl:NN (.il 1 (a6 l)):=.il' (aU l);have hL:=HJ l hl hlen 12 (by decide);refine aN bE func4 rfl ?_;refine Rr ?_;refine aC.useN bE [] hL.glob rfl (.cons (.same _ nl) (.s .nil)) trivial rfl ?_;rintro r m k ⟨G,hG1,hG2,rfl,rfl,rfl⟩;have lG:=bA G;have nG:NN (.il 5 (aD G)):=.il' (aK G);refine⟨[],.il 5 (aD G),[],0,.fzR (id:=0) rfl rfl (.same (aK _)) lG,trivial,rfl, ?_⟩;have hK:∀g∈G,GK g:=fun g hg=>HI (hG2 g hg)
 have hF:FT G<=36:=by
  have:=EB (l:=G) (b:=3) fun g hg=>(hG2 g hg).2.2.1
  omega
 have hO:=Iq G om fun g hg=>by have:=(hG2 g hg).2.2.1;omega
 refine Rr ?_;refine hO.goG ?_ (.cons nG .nil) nG;refine Rr ?_;have hw:IntKind.i64.wrap (((aD G).length:Int)+1)=((G.length+1:Nat):Int):=by rw[lG,Go.Ax.f7 ⟨om,om⟩];omega
 have hA:=qR cut ((G.length+1:Nat):Int) hc om;have hb:=fL (n:=cut) (most:=((G.length+1:Nat):Int)) om;rw[hw];generalize fK cut ((G.length+1:Nat):Int)=kk at *;obtain⟨k,rfl⟩:∃k:Nat,kk=(k:Int):=⟨kk.toNat,om⟩
 have hk:k<=G.length:=om;have hkG:∀g,g∈G.take k->g∈G:=fun g h=>KE h
 have hdG:∀g,g∈G.drop k->g∈G:=fun g h=>Kw h
 have hFt:=vU G k;have hFd:FT (G.drop k)<=36:=by have:=jL (G.take k) (G.drop k);rw[List.take_append_drop] at this;omega
 have hlt:(G.take k).length<=12:=by rw[J2];omega
 have hld:(G.drop k).length<=12:=by rw[List.length_drop];omega
 have hM1:=oW [G] (fun g hg=>hK g (by simpa using hg)) (by simp;omega) (by simp;omega) (by simp);have hM2:=oW [G.take k,G.drop k] (fun g hg=>hK g (by
  simp only[LB,LI,KN,JV] at hg;rcases hg with h|h
  ·exact hkG g h
  ·exact hdG g h)) (by simp;omega) (by simp[jL];omega) (by simp)
 have hM3:=oW [G.drop k,[],G.take k,G.take k] (fun g hg=>hK g (by
  simp only[LB,LI,KN,JV,KT] at hg;rcases hg with h|h|h
  ·exact hdG g h
  ·exact hkG g h
  ·exact hkG g h)) (by simp;omega) (by simp[jL];omega) (by simp)
 have hM4:=oW [G.take k] (fun g hg=>hK g (hkG g (by simpa using hg))) (by simp;omega) (by simp;omega) (by simp);have hg1:=Dl hK om;have hg2:=Dl (l:=G.take k) (fun g hg=>hK g (hkG g hg)) om;obtain⟨q1,q2⟩:=nM G;obtain⟨q3,q4⟩:=nM (G.take k);have hF1:=EB (l:=bJ G) (b:=36) fun g hg=>by have:=q2 g hg;omega
 have hF2:=EB (l:=bJ (G.take k)) (b:=36) fun g hg=>by have:=q4 g hg;omega
 have hF1':FT (bJ G)<=432:=om;have hF2':FT (bJ (G.take k))<=432:=om;have hM5:=oW [bJ G,bJ (G.take k)] (fun g hg=>(by
  simp only[LB,LI,KN,JV] at hg;rcases hg with h|h
  ·exact hg1 g h
  ·exact hg2 g h)) (by simp;omega) (by simp[jL];omega) (by simp)
 have hM0:=oW [] (fun g hg=>by simp at hg) (by simp) (by simp[FT]) (by simp);have e1:[G].flatten=G:=by simp
 have e2:bJ [G.take k,G.drop k].flatten=bJ G:=by simp
 have e3:bJ [G.drop k,[],G.take k,G.take k].flatten=bJ G:=uT fun g=>by
  simp only[LB,LI,KN,JV,KT];constructor
  ·rintro(h|h|h)
   ·exact hdG g h
   ·exact hkG g h
   ·exact hkG g h
  ·intro h;rw[←List.take_append_drop k G,JV] at h;rcases h with h|h
   ·exact .inr (.inl h)
   ·exact .inl h
 have e4:[G.take k].flatten=G.take k:=by simp
 have e5:bJ [bJ G,bJ (G.take k)].flatten=bJ G:=by
  have:[bJ G,bJ (G.take k)].flatten=bJ G++bJ (G.take k):=by simp
  rw[this,B5,DI];exact uT fun g=>by
   rw[JV];exact⟨fun h=>h.elim id (hkG g),.inl⟩
 rw[e1] at hM1;rw[e2] at hM2;rw[e3] at hM3;rw[e4] at hM4;rw[e5] at hM5;have hR:=Gh G om om fun g hg=>(hK g hg).1
 have hP:=GN (bJ G) om fun g hg=>(hg1 g hg).1
 have hE:=Ix (bJ G) om fun g hg=>(hg1 g hg).1
 have c1:dT [G]=[.il 5 (aD G)]:=rfl;have c2:dT [G.take k,G.drop k]=[.il 5 ((aD G).take k),.il 5 ((aD G).drop k)]:=by simp[dT,mY,s8]
 have c3:dT [G.drop k,[],G.take k,G.take k]=[.il 5 ((aD G).drop k),.il 5 [],.il 5 ((aD G).take k),.il 5 ((aD G).take k)]:=by simp[dT,mY,s8];rfl
 have c4:dT [G.take k]=[.il 5 ((aD G).take k)]:=by simp[dT,mY]
 have c5:dT [bJ G,bJ (G.take k)]=[.il 5 (aD (bJ G)),.il 5 (aD (bJ (G.take k)))]:=rfl;rw[c1] at hM1;rw[c2] at hM2;rw[c3] at hM3;rw[c4] at hM4;rw[c5] at hM5;have nW:=aK (bJ G);have nV:=aK (bJ (G.take k));have lW:=bA (bJ G);have nT:Go.Ax.f9 ((aD G).take k):=fun a ha=>aK G a (KE ha)
 have nD:Go.Ax.f9 ((aD G).drop k):=fun a ha=>aK G a (Kw ha)
 refine hA.goG ?_;refine Rr ?_;refine hR.goG ?_ (.cons nG .nil) (.il' nW);refine Rr ?_;refine aC.pre bE [] (mem':=[]) rfl trivial (.cons (.fzR (id:=0) rfl rfl (.same (.cons nG .nil)) rfl) .nil) ?_;refine hM1.use bE (.cons (.il' (.cons nG .nil)) .nil) (.il' nW) ?_;generalize bJ G=W at *;generalize bJ (G.take k)=V at *;refine Rr ?_;refine hP.goG ?_ (.cons (.il' nW) .nil) (.il' nW);refine Rt ?_;refine hE.goG ?_ (.cons (.il' nW) (.cons (.il' nW) .nil)) nn;refine Rr ?_;repeat((first|refine aF ?_|refine aS (eD om (by rw[lG];omega) om) ?_);refine Rr ?_)
 have t1:List.take ((k:Int).toNat-0) (List.drop 0 (aD G))=(aD G).take k:=by simp
 have t2:List.take ((aD G).length-(k:Int).toNat) (List.drop (k:Int).toNat (aD G))=(aD G).drop k:=by rw[KR,KQ (by simp)]
 have n2:Go.Ax.f9 [.il 5 ((aD G).take k),.il 5 ((aD G).drop k)]:=.cons (.il' nT) (.cons (.il' nD) .nil);refine aC.pre bE [] (mem':=[]) rfl trivial (.cons (.fzR (id:=12) rfl rfl (.eq n2 (by rw[t1,t2])) rfl) .nil) ?_;refine hM2.use bE (.cons (.il' n2) .nil) (.il' nW) ?_;refine Rr ?_;repeat((first|refine aF ?_|refine aS (eD om (by rw[lG];omega) om) ?_);refine Rr ?_)
 refine hP.goG ?_ (.cons (.il' nW) .nil) (.il' nW);refine Rr ?_;repeat((first|refine aF ?_|refine aS (eD om (by rw[lG];omega) om) ?_);refine Rr ?_)
 refine hE.goG ?_ (.cons (.il' nW) (.cons (.il' nW) .nil)) nn;refine Rr ?_;repeat((first|refine aF ?_|refine aS (eD om (by rw[lG];omega) om) ?_);refine Rr ?_)
 have n3:Go.Ax.f9 [.il 5 ((aD G).drop k),.il 5 [],.il 5 ((aD G).take k),.il 5 ((aD G).take k)]:=.cons (.il' nD) (.cons (.il' .nil) (.cons (.il' nT) (.cons (.il' nT) .nil)));refine aC.pre bE [] (mem':=[]) rfl trivial (.cons (.fzR (id:=28) rfl rfl (.cons (.one rfl rfl (.eq (.il' nD) (by rw[t2]))) (.cons (.one rfl rfl (.nil 5)) (.cons (.one rfl rfl (.eq (.il' nT) (by rw[t1]))) (.cons (.one rfl rfl (.eq (.il' nT) (by rw[t1]))) .nil)))) rfl) .nil) ?_;refine hM3.use bE (.cons (.il' n3) .nil) (.il' nW) ?_;refine Rr ?_;repeat((first|refine aF ?_|refine aS (eD om (by rw[lG];omega) om) ?_);refine Rr ?_)
 refine hP.goG ?_ (.cons (.il' nW) .nil) (.il' nW);refine Rr ?_;repeat((first|refine aF ?_|refine aS (eD om (by rw[lG];omega) om) ?_);refine Rr ?_)
 refine hE.goG ?_ (.cons (.il' nW) (.cons (.il' nW) .nil)) nn;refine Rr ?_;repeat((first|refine aF ?_|refine aS (eD om (by rw[lG];omega) om) ?_);refine Rr ?_)
 have n4:Go.Ax.f9 [.il 5 ((aD G).take k)]:=.cons (.il' nT) .nil;refine aC.pre bE [] (mem':=[]) rfl trivial (.cons (.fzR (id:=39) rfl rfl (.eq n4 (by rw[t1])) rfl) .nil) ?_;refine hM4.use bE (.cons (.il' n4) .nil) (.il' nV) ?_;refine Rr ?_;repeat((first|refine aF ?_|refine aS (eD om (by rw[lG];omega) om) ?_);refine Rr ?_)
 have n5:Go.Ax.f9 [.il 5 (aD W),.il 5 (aD V)]:=.cons (.il' nW) (.cons (.il' nV) .nil);refine aC.pre bE [] (mem':=[]) rfl trivial (.cons (.fzR (id:=41) rfl rfl (.same n5) rfl) .nil) ?_;refine hM5.use bE (.cons (.il' n5) .nil) (.il' nW) ?_;refine Rr ?_;repeat((first|refine aF ?_|refine aS (eD om (by rw[lG];omega) om) ?_);refine Rr ?_)
 refine hP.goG ?_ (.cons (.il' nW) .nil) (.il' nW);refine Rr ?_;repeat((first|refine aF ?_|refine aS (eD om (by rw[lG];omega) om) ?_);refine Rr ?_)
 refine hE.goG ?_ (.cons (.il' nW) (.cons (.il' nW) .nil)) nn;refine Rr ?_;repeat((first|refine aF ?_|refine aS (eD om (by rw[lG];omega) om) ?_);refine Rr ?_)
 have hM0':aR prog gz 10 [.il 1 []] (.il 5 []):=hM0;refine hM0'.useC bE (.cons (.nil 1) .nil) (.il' .nil) ?_;refine Rr ?_;repeat((first|refine aF ?_|refine aS (eD om (by rw[lG];omega) om) ?_);refine Rr ?_)
 refine En.use bE .nil nn ?_;refine Rr ?_;repeat((first|refine aF ?_|refine aS (eD om (by rw[lG];omega) om) ?_);refine Rr ?_)
 exact aJ nn ⟨rfl,rfl,rfl⟩
end Go.Proofs.YtnbkfjjdlofdpaaGreatDoor
namespace Go.Proofs.YtnbkfjjdlofdpaaGreatDoor.GroupMerge
open Go.ChangeShapes Go.WideShapes Go.ChangeAt Go.RowKit Go.Lib Go.Ax
set_option maxHeartbeats 16000000
theorem own:ownKnob Tryz.prog.godebug=none:=by kernel_rfl
theorem laidOut:laidOutB Tryz.prog=true:=by kernel_rfl
theorem cells3:Tryz.prog.cellsOf 3=1:=by kernel_rfl
theorem bytes3:Tryz.prog.bytesOf 3=8:=by kernel_rfl
theorem gNameP:Tryz.prog.globalNamed "internal/strconv.uint64pow10" = some 0:=by kernel_rfl
theorem gNameB:Tryz.prog.globalNamed "math/bits.deBruijn32tab" = some 1:=by kernel_rfl
theorem gNameC:Tryz.prog.globalNamed "math/bits.deBruijn64tab" = some 2:=by kernel_rfl
theorem gTypeP:(Tryz.prog.globals[0]?).map (·.type)=some 168:=by kernel_rfl
theorem gTypeB:(Tryz.prog.globals[1]?).map (·.type)=some 209:=by kernel_rfl
theorem gTypeC:(Tryz.prog.globals[2]?).map (·.type)=some 210:=by kernel_rfl
theorem cellsU:Tryz.prog.cellsOf 110=1:=by kernel_rfl
theorem cellsB:Tryz.prog.cellsOf 5=1:=by kernel_rfl
theorem cellsP:Tryz.prog.cellsOf 168=20:=by kernel_rfl
theorem cellsQ:Tryz.prog.cellsOf 209=32:=by kernel_rfl
theorem cellsR:Tryz.prog.cellsOf 210=64:=by kernel_rfl
def pows:List Int:=[1,10,100,1000,10000,100000,1000000,10000000,100000000,1000000000,10000000000,100000000000,1000000000000,10000000000000,100000000000000,1000000000000000,10000000000000000,100000000000000000,1000000000000000000,10000000000000000000]
def tabB:List Int:=[0,1,28,2,29,14,24,3,30,22,20,15,25,17,4,8,31,27,13,23,21,19,16,7,26,12,18,6,11,5,10,9]
def tabC:List Int:=[0,1,56,2,57,49,28,3,61,58,42,50,38,29,17,4,62,47,59,36,45,43,51,22,53,39,33,30,24,18,12,5,63,55,48,27,60,41,37,16,46,35,44,21,52,32,23,11,54,26,40,15,34,20,31,10,25,14,19,9,13,8,7,6]
theorem vars{W:World}(h:laidMetH Tryz.prog Rows.groupMergeRow.laid W):∀p∈gz,VR (fun _=>⟨0,0,0⟩) (fun _=>False) (OX (fun _=>False) (fun _=>⟨0,0,0⟩) []) W (.ip p.2) (.pointer (some ⟨p.1,0,none⟩)):=by
 have h:laidMet Tryz.prog Rows.groupMergeRow.laid W:=h
 have hP:=tabIs_of_head (k:=.u64) (zs:=pows) gNameP gTypeP Tryz.underlying168 Tryz.underlying110 cellsU cellsP h.tail.tail
 have hB:=tabIs_of_head (k:=.u8) (zs:=tabB) gNameB gTypeB Tryz.underlying209 Tryz.underlying5 cellsB cellsQ h
 have hC:=tabIs_of_head (k:=.u8) (zs:=tabC) gNameC gTypeC Tryz.underlying210 Tryz.underlying5 cellsB cellsR h.tail
 intro p hp
 simp only[gz,List.mem_cons,List.not_mem_nil,or_false] at hp
 rcases hp with rfl|rfl|rfl
 ·exact mV gNameP hP
 ·exact mV gNameB hB
 ·exact mV gNameC hC
set_option maxRecDepth 100000 in
theorem contract(H:Type)(enc:TypeId × Value→H)(W:World)(base:Nat)(args:Array Value)(ds gs:List (DataW H))(before:List MemPlace)
  (hval:∀(j:Nat) t v,Tryz.f4.params[j]? = some t→args[j]? = some v→Value.okWide Tryz.prog W .any base t v)
  (hW:DataW.Whole enc Tryz.prog Tryz.f4.params.toList Rows.groupMergeSpec.vars false W args.toList ds gs before) (hL:laidMetH Tryz.prog Rows.groupMergeRow.laid W) (vt:List TypeId) (hsz:(DataW.weightsEach Tryz.prog (Tryz.f4.params.toList++vt) (ds++gs)).all (· ≤ reachBytes)=true) :
  Calls Tryz.prog 4 args W fun e W'=>∃v,e = .returned v∧Rows.groupMergeSpec.post enc Tryz.prog Tryz.f4 false true false false W args v W':=by
 have hW':=hW
 obtain⟨p,q,hA0,hV,rfl,hfz,hnd⟩:=hW
 have hA:DataW.TrodAll enc Tryz.prog W 0 (fun _=>true) true Tryz.f4.params.toList args.toList ds p:=hA0
 rw[Tryz.params4] at hA hval
 rw[Tryz.params4] at hsz
 obtain⟨v0,vs0,d0,ds0,p0,q0,hargs,rfl,rfl,h0,r0⟩:=trodAll_cons hA
 obtain⟨v1,vs1,d1,ds1,p1,q1,rfl,rfl,rfl,h1,r1⟩:=trodAll_cons r0
 obtain⟨rfl,rfl,rfl⟩:=trodAll_nil r1
 obtain rfl:args = #[v0,v1]:=by cases args;simp_all
 obtain⟨rfl,rfl⟩:=trodVars_none hV
 have hw0:(d0.weights Tryz.prog 22).all (· ≤ reachBytes)=true:=wH (hsz)
 have h0k:=h0
 obtain⟨x0,b0,e0,s0⟩:=Ai Tryz.underlying22 Tryz.underlying3 cells3 bytes3 (hval 0 22 v0 rfl rfl) h0 hw0
 have h1k:=h1
 obtain⟨x1,rfl,rfl,rfl,hwf1⟩:=open_int Tryz.underlying3 (hval 1 3 v1 rfl rfl) h1
 have b1:i64 x1:=by
  have e1:IntKind.i64.min = -9223372036854775808:=rfl
  have e2:IntKind.i64.max=9223372036854775807:=rfl
  simp[Lit.wf,e1,e2] at hwf1
  unfold i64
  omega
 clear hA0
 refine((A7 x0 x1 b0 b1 s0).callsG W [v0,.int .i64 x1] (vars hL) (.cons e0 (.cons (.int _ _) .nil))).mono ?_
 rintro e W' ⟨rfl,hk⟩
 refine⟨_,rfl,_,_,_,[],p0++([]++[]),[],hW', ?_, ?_, ?_,hk.frame _,fun h=>by cases h⟩
 ·exact trodAll_cons_mk (shut_bool Tryz.underlying4 _) trodAll_mk0
 ·exact trodAll_cons_mk (yM.trod laidOut (by kernel_rfl) (of_decide_eq_true (by kernel_rfl)) h0k hk) (trodAll_cons_mk (yM.trod laidOut (by kernel_rfl) (of_decide_eq_true (by kernel_rfl)) h1k hk) trodAll_mk0)
 ·rfl
noncomputable def laidWorld(os:Os):World:=
 let w0:=World.holding Tryz.prog os ⟨#[],#[],[]⟩
 let put (h:Array Obj) (g:Nat) (cs:Array Value):Array Obj:=h.modify g fun
  | .cells _ t frozen=>.cells cs t frozen
  | o=>o
 let nums (d:DataW Unit):Array Value:=match d with
  | .agg ds=>(ds.map fun
   | .lit (.int k n)=>Value.int k n
   | _=>.bool false).toArray
  | _=>#[]
 let h1:=put w0.heap 0 (nums Rows.laid_internal_strconv_uint64pow10)
 let h2:=put h1 1 (nums Rows.laid_math_bits_deBruijn32tab)
 let h3:=put h2 2 (nums Rows.laid_math_bits_deBruijn64tab)
 { w0 with heap:=h3 }
theorem laid_met(os:Os)(args:Array Value):laidMet Tryz.prog Rows.groupMergeRow.laid ((laidWorld os).forCall (fun _ _=>0) ⟨#[],args,[]⟩).memory:=
 (LaidIn.of_run (l:=Rows.groupMergeRow.laid) [0,1,2] 8 (by kernel_rfl) (by kernel_rfl) (by kernel_rfl) (by kernel_rfl)).met
noncomputable abbrev wargs:Array Value:=#[.slice none 0 0,.int .i64 0]
theorem reads(os:Os){H:Type}(enc:TypeId × Value→H):∃places,DataW.whole enc Tryz.prog ((laidWorld os).forCall (fun _ _=>0) ⟨#[],wargs,[]⟩).memory Tryz.f4.params.toList Rows.groupMergeSpec.vars false wargs.toList 8=some ([.nil,.lit (.int .i64 0)],[],places):=
 ⟨[],by kernel_rfl⟩
set_option maxRecDepth 100000 in
theorem lifted(os:Os)(started:os.Started)(H:Type)(enc:TypeId × Value→H)(F:Stop.Interp) :
  ReturnsInHanded {} Tryz.checked os 4 .any ((OpenSpec.ofChange Rows.groupMergeSpec).preRow enc Tryz.prog Tryz.f4 Rows.groupMergeRow.domain false Rows.groupMergeRow.laid) (((OpenSpec.ofChange Rows.groupMergeSpec).at F).post enc Tryz.prog Tryz.f4 false true false false):=by
 obtain⟨places,hx⟩:=reads os enc
 refine returnsInHanded_of_row (C:=Tryz.checked) (s:=OpenSpec.ofChange Rows.groupMergeSpec) own started (by kernel_rfl) Tryz.func4
  (witness_row_atRef (enc:=enc) (C:=Tryz.checked) false (laidWorld os) wargs rfl (by kernel_rfl) (by kernel_rfl) (by kernel_rfl)
   (OpenSpec.preRow_of_cond 8 hx (by kernel_rfl) (fun k hk=>by cases hk) (by kernel_rfl) (laid_met os _))) ?_
 intro W base args ds gs before hval hW _ _ hsz hL _ _
 exact contract H enc W base args ds gs before hval hW hL _ hsz
theorem said:Rows.GroupMergeSaid:=
 OpenClaim.holds_of_cond 4 Tryz.f4 rfl rfl rfl rfl rfl rfl rfl ⟨rfl,rfl,rfl,rfl,rfl⟩ rfl rfl rfl rfl rfl (by as_aux_lemma=>kernel_rfl) Tryz.func4 (by unfold joinedFacts;simp only[Bool.and_eq_true];(repeat' apply And.intro);all_goals (as_aux_lemma=>kernel_rfl))
  (of_decide_eq_true (by as_aux_lemma=>kernel_rfl)) (by unfold Func.isWrapper;first|(rw[if_pos (by as_aux_lemma=>decide +kernel)];as_aux_lemma=>kernel_rfl)|(rw[if_neg (by as_aux_lemma=>decide +kernel)];exact⟨rfl,rfl⟩))
  (fun os started H enc _ F=>by rw[OpenClaim.pre_eq_preRow];exact lifted os started H enc F)
theorem plain(f:FuncId)(fn:Func)(hf:Tryz.pinned.checked.prog.funcNamed "refuter/refuterlaw34.GroupMerge" = some f)(hfn:Tryz.pinned.checked.prog.funcs[f]? = some fn) :
  true=Tryz.pinned.checked.prog.looks []∧∀(j:Nat) t,fn.params[j]? = some t→Tryz.pinned.checked.prog.wantsStandIn t=false:=by
 obtain rfl:f=4:=Option.some.inj ((show Tryz.prog.funcNamed "refuter/refuterlaw34.GroupMerge" = some 4 by kernel_rfl).symm.trans hf) |>.symm
 obtain rfl:fn=Tryz.f4:=(Option.some.inj (Tryz.func4.symm.trans hfn)).symm
 refine⟨by kernel_rfl,fun j t ht=>?_⟩
 rw[Tryz.params4] at ht
 have hTI:Tryz.prog.wantsStandIn 22=false:=by kernel_rfl
 have hTi:Tryz.prog.wantsStandIn 3=false:=by kernel_rfl
 have hm:=Array.mem_of_getElem? ht
 simp at hm
 repeat' (first|(rw[(hm:t=22)];exact hTI)|(rw[(hm:t=3)];exact hTi)|rcases hm with hm|hm)
theorem card:Rows.GroupMergeCardSaid:=
 Claim7.holds_tied_plain_at .later [] _ _ _ _ said (fun _ h=>by cases h) (by kernel_rfl) (fun _ h=>by cases h) groupMerge_row_tie rfl ⟨rfl,rfl⟩ (by kernel_rfl) rfl plain (by kernel_rfl)
end Go.Proofs.YtnbkfjjdlofdpaaGreatDoor.GroupMerge
