/- A part of the proof. -/
import Derived.Test.YtobknjmfgjaehaaGreatDoorAx10
import Derived.Test.YtobknjmfgjaehaaGreatDoorProg
import Derived.KernelRfl
import Derived.Lib.ItoaMem
import Derived.Lib.AtoiAllCases
set_option linter.unusedVariables false
set_option linter.unusedSimpArgs false
set_option linter.unusedSectionVars false
namespace Go.Proofs.YtobknjmfgjaehaaGreatDoor
open Go Go.Ax Go.Proofs Tryz
set_option maxRecDepth 100000
theorem KH(x:Int):a8 prog [] 79 [.int .i64 x] (.bool false):=by
 refine e9 bG func79 rfl ?_
 conv=>whnf
 refine aB (.bool _) ⟨?_,rfl,rfl⟩;simp
theorem JP(x:List UInt8):a8 prog [] 119 [.str x] (.bool false):=by
 refine e9 bG func119 rfl ?_
 conv=>whnf
 refine aB (.bool _) ⟨?_,rfl,rfl⟩;simp
theorem KF(x y:Int):a8 prog [] 55 [.int .i64 x,.int .i64 y] (.int .i64 (oW x y)):=by
 refine e9 bG func55 rfl ?_
 conv=>whnf
 refine(KH x).use bG (.cons (.int _ _) .nil) (.bool _) ?_
 conv=>whnf
 refine(KH y).use bG (.cons (.int _ _) .nil) (.bool _) ?_
 conv=>whnf
 refine aH (fun h=>?_) (fun h=>?_)
 ·conv=>whnf
  refine aB (.int _ _) ⟨?_,rfl,rfl⟩;simp at h;simp[oW,h]
 conv=>whnf
 refine aH (fun h'=>?_) (fun h'=>?_)
 ·conv=>whnf
  refine aB (.int _ _) ⟨?_,rfl,rfl⟩;simp at h h';simp only[oW];rw[if_neg om,if_pos om]
 ·conv=>whnf
  refine aB (.int _ _) ⟨?_,rfl,rfl⟩;simp at h h';simp only[oW];rw[if_neg om,if_neg om]
theorem OE(x y:List UInt8):a8 prog [] 73 [.str x,.str y] (.int .i64 (iL x y)):=by
 refine e9 bG func73 rfl ?_
 conv=>whnf
 refine(JP x).use bG (.cons (.str _) .nil) (.bool _) ?_
 conv=>whnf
 refine(JP y).use bG (.cons (.str _) .nil) (.bool _) ?_
 conv=>whnf
 refine aH (fun h=>?_) (fun h=>?_)
 ·conv=>whnf
  refine aB (.int _ _) ⟨?_,rfl,rfl⟩;rw[Ce.1 h]
 conv=>whnf
 refine aH (fun h'=>?_) (fun h'=>?_)
 ·conv=>whnf
  refine aB (.int _ _) ⟨?_,rfl,rfl⟩;rw[IM h h']
 ·conv=>whnf
  refine aB (.int _ _) ⟨?_,rfl,rfl⟩;rw[IE h h']
theorem MJ(l1 l2:List a7)(hb:l1.length<=4294967296)(hc:∀a∈l1,∀b∈l2,a8 prog [] 48 [bK a,bK b] (.int .i64 (bW a b))) :
  a8 prog [] 74 [.il 4 (aO l1),.il 4 (aO l2),.fn (.func 48) [] []] (.int .i64 (fC l1 l2)):=by
 have n1:NN (.il 4 (aO l1)):=.il' (aS l1);have n2:NN (.il 4 (aO l2)):=.il' (aS l2);have n3:NN (.fn (.func 48) [] []):=.fn _ _ _ (by simp) (by simp);refine e9 bG func74 rfl ?_
 conv=>whnf
 refine dI.loopAt bG (fun k:Nat=>k<=l1.length/\k<=l2.length/\fC l1 l2=fC (l1.drop k) (l2.drop k))
  (fun k=>⟨[(0,.il 4 (aO l1)),(1,.il 4 (aO l2)),(2,.fn (.func 48) [] []),(11,.il 4 (aO l1)),(12,.int .i64 (aO l1).length),(13,.int .i64 k)],[],0,39⟩)
  (fun k=>l1.length-k) 0 [] ⟨by simp,by simp,by simp⟩
  (cL ⟨aR n1,aR n2,aR n3,aR n1,aR (.int _ _),aR (.int _ _),trivial⟩) ?_
 rintro k ⟨h1,h2,h3⟩
 conv=>whnf
 refine aH (fun h=>?_) (fun h=>?_)
 ·have hk:k<l1.length:=by rw[aA] at h;simpa using h
  obtain⟨⟨ka,na,sa,ksa⟩,hv⟩:∃v,v=l1[k]:=⟨_,rfl⟩
  have hm:a7.mk ka na sa ksa∈l1:=by rw[hv];exact List.getElem_mem hk
  have e:(aO l1)[(k:Int).toNat]? = some (bK (.mk ka na sa ksa)):=by rw[Int.toNat_natCast,gK,List.getElem?_eq_getElem hk,hv];rfl
  conv=>whnf
  refine aC e ?_
  conv=>whnf
  refine aH (fun h'=>?_) (fun h'=>?_)
  ·have hk2:k=l2.length:=by rw[aA] at h';simp at h';omega
   conv=>whnf
   refine aB (.int _ _) ⟨?_,rfl,rfl⟩;rw[h3,List.drop_of_length_le (l:=l2) om,List.drop_eq_getElem_cons hk,fC]
  ·have hk2:k<l2.length:=by rw[aA] at h';simpa using h'
   obtain⟨⟨kb,nb,sb,ksb⟩,hv2⟩:∃v,v=l2[k]:=⟨_,rfl⟩
   have hm2:a7.mk kb nb sb ksb∈l2:=by rw[hv2];exact List.getElem_mem hk2
   have e2:(aO l2)[(k:Int).toNat]? = some (bK (.mk kb nb sb ksb)):=by rw[Int.toNat_natCast,gK,List.getElem?_eq_getElem hk2,hv2];rfl
   conv=>whnf
   refine aC e2 ?_
   conv=>whnf
   refine(hc _ hm _ hm2).use bG (.cons (bM _) (.cons (bM _) .nil)) (.int _ _) ?_
   conv=>whnf
   have hs:=CG hk hk2;rw[←hv,←hv2] at hs;refine aH (fun h4=>?_) (fun h4=>?_)
   ·conv=>whnf
    refine aB (.int _ _) ⟨?_,rfl,rfl⟩;have h4:bW (.mk ka na sa ksa) (.mk kb nb sb ksb)≠0:=by simpa using h4
    rw[h3,hs,andThen,if_neg h4]
   ·have h4:bW (.mk ka na sa ksa) (.mk kb nb sb ksb)=0:=by simpa using h4
    conv=>whnf
    refine .mk (k+1) [] ⟨om,om, ?_⟩ (cL ⟨aR n1,aR n2,aR n3,aR n1,aR (.int _ _),⟨_,rfl,.eq (.int _ _) ?_⟩,trivial⟩) om
    ·rw[h3,hs,andThen,if_pos h4]
    ·rw[cK ⟨om,om⟩];rfl
 ·have hk:k=l1.length:=by rw[aA] at h;simp at h;omega
  have hd:l1.drop k=[]:=List.drop_of_length_le om
  conv=>whnf
  refine aH (fun h'=>?_) (fun h'=>?_)
  ·have hk2:l1.length<l2.length:=by rw[aA,aA] at h';simpa using h'
   conv=>whnf
   refine aB (.int _ _) ⟨?_,rfl,rfl⟩;rw[h3,hd,List.drop_eq_getElem_cons (show k<l2.length by omega),fC]
  ·have hk2:l2.length<=l1.length:=by rw[aA,aA] at h';simpa using h'
   conv=>whnf
   refine aB (.int _ _) ⟨?_,rfl,rfl⟩;rw[h3,hd,List.drop_of_length_le om,fC]
theorem lN:∀(a b:a7),gD a->a8 prog [] 48 [bK a,bK b] (.int .i64 (bW a b))
 | .mk ka na sa ksa,.mk kb nb sb ksb,ha=>by
  simp only[gD] at ha;have hkids:∀a∈ksa,∀b∈ksb,a8 prog [] 48 [bK a,bK b] (.int .i64 (bW a b)):=fun a hm b _=>lN a b (nJ ha.2.2.2.2 a hm)
  refine e9 bG func48 rfl ?_
  conv=>whnf
  refine(KF ka kb).use bG (.cons (.int _ _) (.cons (.int _ _) .nil)) (.int _ _) ?_
  conv=>whnf
  refine aH (fun h=>?_) (fun h=>?_)
  ·conv=>whnf
   refine aB (.int _ _) ⟨?_,rfl,rfl⟩;have h:oW ka kb≠0:=by simpa using h
   rw[bW,andThen,if_neg h]
  have h:oW ka kb=0:=by simpa using h
  conv=>whnf
  refine(KF na nb).use bG (.cons (.int _ _) (.cons (.int _ _) .nil)) (.int _ _) ?_
  conv=>whnf
  refine aH (fun h2=>?_) (fun h2=>?_)
  ·conv=>whnf
   refine aB (.int _ _) ⟨?_,rfl,rfl⟩;have h2:oW na nb≠0:=by simpa using h2
   rw[bW,andThen,if_pos h,andThen,if_neg h2]
  have h2:oW na nb=0:=by simpa using h2
  conv=>whnf
  refine(OE sa sb).use bG (.cons (.str _) (.cons (.str _) .nil)) (.int _ _) ?_
  conv=>whnf
  refine aH (fun h3=>?_) (fun h3=>?_)
  ·conv=>whnf
   refine aB (.int _ _) ⟨?_,rfl,rfl⟩;have h3:iL sa sb≠0:=by simpa using h3
   rw[bW,andThen,if_pos h,andThen,if_pos h2,andThen,if_neg h3]
  have h3:iL sa sb=0:=by simpa using h3
  conv=>whnf
  refine(MJ ksa ksb ha.2.2.2.1 hkids).use bG (.cons (.il' (aS _)) (.cons (.il' (aS _)) (.cons (.fn _ _ _ (by simp) (by simp)) .nil))) (.int _ _) ?_
  conv=>whnf
  refine aB (.int _ _) ⟨?_,rfl,rfl⟩;rw[bW,andThen,if_pos h,andThen,if_pos h2,andThen,if_pos h3]
 termination_by a=>SizeOf.sizeOf a
 decreasing_by simp;have:=List.sizeOf_lt_of_mem hm;omega
theorem FD(b:Bool):a8 prog [] 120 [.bool b] (.int .i64 (if b then -1 else 1)):=by
 refine e9 bG func120 rfl ?_
 conv=>whnf
 refine aH (fun h=>?_) (fun h=>?_)
 ·conv=>whnf
  exact aB (.int _ _) ⟨by rw[h];rfl,rfl,rfl⟩
 ·conv=>whnf
  exact aB (.int _ _) ⟨by rw[h];rfl,rfl,rfl⟩
theorem sL:∀(a b:a7),gD a->a8 prog [] 75 [bK a,bK b] (.int .i64 (bW a b))
 | .mk ka na sa ksa,.mk kb nb sb ksb,ha=>by
  simp only[gD] at ha;have hb:ksa.length<=4294967296:=ha.2.2.2.1;have hkids:∀a∈ksa,∀b∈ksb,a8 prog [] 75 [bK a,bK b] (.int .i64 (bW a b)):=fun a hm b _=>sL a b (nJ ha.2.2.2.2 a hm)
  refine e9 bG func75 rfl ?_
  conv=>whnf
  refine aH (fun h=>?_) (fun h=>?_)
  ·conv=>whnf
   refine(FD _).use bG (.cons (.bool _) .nil) (.int _ _) ?_
   conv=>whnf
   refine aB (.int _ _) ⟨?_,rfl,rfl⟩;rw[IU (by simpa using h)];simp
  have h:ka=kb:=by simpa using h
  conv=>whnf
  refine aH (fun h2=>?_) (fun h2=>?_)
  ·conv=>whnf
   refine(FD _).use bG (.cons (.bool _) .nil) (.int _ _) ?_
   conv=>whnf
   refine aB (.int _ _) ⟨?_,rfl,rfl⟩;rw[Jg h (by simpa using h2)];simp
  have h2:na=nb:=by simpa using h2
  conv=>whnf
  refine aH (fun h3=>?_) (fun h3=>?_)
  ·conv=>whnf
   refine(FD _).use bG (.cons (.bool _) .nil) (.int _ _) ?_
   conv=>whnf
   refine aB (.int _ _) ⟨?_,rfl,rfl⟩;rw[N7 h h2 (by simpa using h3)]
  have h3:sa=sb:=by simpa using h3
  have hcmp:bW (.mk ka na sa ksa) (.mk kb nb sb ksb)=fC ksa ksb:=N0 h h2 h3
  conv=>whnf
  refine dI.loopAt bG (fun k:Nat=>k<=ksa.length/\k<=ksb.length/\fC ksa ksb=fC (ksa.drop k) (ksb.drop k))
   (fun k=>⟨[(2,.ptr 0 0 0),(3,.ptr 1 0 0),(5,.int .i64 k)],[(1,.row 57 4 [bK (.mk kb nb sb ksb)]),(0,.row 57 4 [bK (.mk ka na sa ksa)])],2,83⟩)
   (fun k=>ksa.length-k) 0 [(0,0),(1,1)] ⟨by simp,by simp,by simp⟩
   (aE _ rfl ⟨aJ 1 (.cons (bM _) .nil),aJ 0 (.cons (bM _) .nil),trivial⟩ ⟨aK,aK,aR (.int _ _),trivial⟩) ?_
  rintro k ⟨h4,h5,h6⟩
  conv=>whnf
  refine aH (fun h7=>?_) (fun h7=>?_)
  ·have hk:k<ksa.length:=by rw[aA] at h7;simpa using h7
   rw[h7]
   conv=>whnf
   refine aH (fun h8=>?_) (fun h8=>?_)
   ·have hk2:k<ksb.length:=by rw[aA] at h8;simpa using h8
    conv=>whnf
    have e1:=xW hk;have e2:=xW hk2;obtain⟨⟨k1,n1,s1,ks1⟩,hv1⟩:∃v,v=ksa[k]:=⟨_,rfl⟩
    obtain⟨⟨k2,n2,s2,ks2⟩,hv2⟩:∃v,v=ksb[k]:=⟨_,rfl⟩
    rw[←hv1] at e1;rw[←hv2] at e2;refine aC e1 ?_
    conv=>whnf
    refine aC e2 ?_
    conv=>whnf
    have hm1:a7.mk k1 n1 s1 ks1∈ksa:=by rw[hv1];exact List.getElem_mem hk
    have hm2:a7.mk k2 n2 s2 ks2∈ksb:=by rw[hv2];exact List.getElem_mem hk2
    have hs:=CG hk hk2;rw[←hv1,←hv2] at hs;refine(hkids _ hm1 _ hm2).use bG (.cons (bM _) (.cons (bM _) .nil)) (.int _ _) ?_
    conv=>whnf
    refine aH (fun h9=>?_) (fun h9=>?_)
    ·have h9:bW (.mk k1 n1 s1 ks1) (.mk k2 n2 s2 ks2)≠0:=by simpa using h9
     conv=>whnf
     refine aB (.int _ _) ⟨?_,rfl,rfl⟩;rw[hcmp,h6,hs,andThen,if_neg h9]
    ·have h9:bW (.mk k1 n1 s1 ks1) (.mk k2 n2 s2 ks2)=0:=by simpa using h9
     conv=>whnf
     refine .mk (k+1) [(0,0),(1,1)] ⟨om,om,by rw[h6,hs,andThen,if_pos h9]⟩ (aE _ rfl ⟨aJ 1 (.cons (bM _) .nil),aJ 0 (.cons (bM _) .nil),trivial⟩ ⟨aK,aK,⟨_,rfl,.eq (.int _ _) ?_⟩,trivial⟩) om;rw[cK ⟨om,om⟩];rfl
   ·have hk2:k=ksb.length:=by rw[aA] at h8;simp at h8;omega
    conv=>whnf
    refine aH (fun h9=>?_) (fun h9=>?_)
    ·exfalso;rw[aA,aA] at h9;simp at h9;omega
    ·conv=>whnf
     refine(FD _).use bG (.cons (.bool _) .nil) (.int _ _) ?_
     conv=>whnf
     refine aB (.int _ _) ⟨?_,rfl,rfl⟩;rw[hcmp,h6,List.drop_of_length_le (l:=ksb) om,List.drop_eq_getElem_cons hk,fC,aA,aA,if_neg (by simp;omega)]
  ·have hk:k=ksa.length:=by rw[aA] at h7;simp at h7;omega
   have hd:ksa.drop k=[]:=List.drop_of_length_le om;rw[h7]
   conv=>whnf
   refine aH (fun h9=>?_) (fun h9=>?_)
   ·have h9:ksa.length=ksb.length:=by rw[aA,aA] at h9;simp at h9;omega
    conv=>whnf
    refine aB (.int _ _) ⟨?_,rfl,rfl⟩;rw[hcmp,h6,hd,List.drop_of_length_le om,fC]
   ·have h9:ksa.length≠ksb.length:=by rw[aA,aA] at h9;simp at h9;omega
    conv=>whnf
    refine(FD _).use bG (.cons (.bool _) .nil) (.int _ _) ?_
    conv=>whnf
    refine aB (.int _ _) ⟨?_,rfl,rfl⟩;rw[hcmp,h6,hd,List.drop_eq_getElem_cons (show k<ksb.length by omega),fC,aA,aA,if_pos (by simp;omega)]
 termination_by a=>SizeOf.sizeOf a
 decreasing_by simp;have:=List.sizeOf_lt_of_mem hm;omega
set_option maxHeartbeats 16000000
theorem l6{l:List Int}{k:Nat}(h:k<l.length):(aT l)[(k:Int).toNat]? = some (.int .i64 l[k]):=by
 rw[Int.toNat_natCast,bF,List.getElem?_eq_getElem h];rfl
set_option maxHeartbeats 16000000
theorem j9{mem:aN}{id len:Nat}{t:TypeId}{sz:Nat}{xs ys:List AV}(h1:lk mem id=some (.row t sz xs))(e:len=xs.length)(h:xs=ys)(h5:iW ys):Cv mem [] (.sl id 0 len) (.il sz ys):=by
 subst h e;exact .fz' (id:=id) h1 rfl om (by rw[List.drop_zero];exact List.take_of_length_le om) h5
theorem Ey(n:Int):i64 (IntKind.i64.wrap n):=by
 rw[IntKind.wrap_i64];exact⟨om,om⟩
set_option maxHeartbeats 8000000
def NS(o:Oc):AV:=.agg [.int .i64 o.kind,.int .i64 o.at_,.int .i64 o.code]
theorem pF(o:Oc):NN (NS o):=.agg' (.cons nn (.cons nn (.cons nn .nil)))
theorem Nc(o:Oc):a8 prog [] 72 [NS o] (.bool (pI 1 2 o)):=by
 obtain⟨k,a,c⟩:=o;unfold pI;refine aM bG func72 rfl ?_;refine Rr ?_;refine aH (fun hb=>?_) (fun hb=>?_)
 ·rw[hb];refine Rr ?_;have h1:k=1:=by simpa using hb
  exact bU (r':=.bool _) (.bool (by rw[decide_eq_true h1];rfl)) ⟨rfl,rfl,rfl⟩
 ·rw[hb];refine Rr ?_;have h1:¬k=1:=by simpa using hb
  exact bU (r':=.bool _) (.bool (by rw[decide_eq_false h1];rfl)) ⟨rfl,rfl,rfl⟩
theorem DP:Tryz.prog.eqGuardType Tryz.prog.depth 30=false:=by kernel_rfl
theorem M4(x y:Oc):(x.kind == y.kind && (x.at_ == y.at_ && (x.code == y.code && true)))=decide (x=y):=by
 obtain⟨a,b,c⟩:=x;obtain⟨d,e,f⟩:=y;rw[Bool.eq_iff_iff];simp
theorem OA(x y:Oc):a8 prog [] 47 [NS x,NS y] (.bool (oV 1 2 x y)):=by
 have hF:=Nc x;have nx:=pF x;have ny:=pF y;have he:=M4 x y;unfold oV;generalize pI 1 2 x=b at *;obtain⟨k,a,c⟩:=x;obtain⟨k',a',c'⟩:=y;refine aM bG func47 rfl ?_;refine Rr ?_;refine hF.go ?_ (.cons nx .nil) nn;refine Rr ?_;cases b
 ·refine Rr ?_;exact aB (.bool _) ⟨rfl,rfl,rfl⟩
 ·refine Rr ?_;rw[DP];refine Rr ?_;exact bU (r':=.bool _) (.bool he) ⟨rfl,rfl,rfl⟩
theorem Ns(x y:Oc):a8 prog [] 49 [NS x,NS y] (.bool (oV 1 2 x y)):=by
 have he:=M4 x y;have hf:oV 1 2 x y=((decide (x.kind=1) || decide (x.kind=2)) && decide (x=y)):=rfl;rw[hf];obtain⟨k,a,c⟩:=x;obtain⟨k',a',c'⟩:=y;refine aM bG func49 rfl ?_;refine Rr ?_;by_cases h1:k=1
 ·subst h1;refine Rr ?_;rw[DP];refine Rr ?_;exact bU (r':=.bool _) (.bool he) ⟨rfl,rfl,rfl⟩
 ·rw[show (k == 1)=false by simpa using h1];refine Rr ?_;by_cases h2:k=2
  ·subst h2;refine Rr ?_;rw[DP];refine Rr ?_;exact bU (r':=.bool _) (.bool he) ⟨rfl,rfl,rfl⟩
  ·rw[show (k == 2)=false by simpa using h2];refine Rr ?_;exact bU (r':=.bool _) (.bool (by simp[h1,h2])) ⟨rfl,rfl,rfl⟩
theorem Mv(n:Int)(hn:i64 n):aG prog [] 22 [.int .i64 n] [] 0 fun r m k=>∃p:List Int,p.length<=3/\(∀x∈p,i64 x)/\r = .il 1 (aT p)/\m=[]/\k=0:=by
 have hA:=zW n 60 hn (by decide);have hb:=kZ (n:=n) (most:=60) (by decide);generalize kY n 60=k at *;refine aM bG func22 rfl ?_;refine Rr ?_;refine hA.go ?_;refine Rr ?_;have h7:k.tmod 7=0∨k.tmod 7=1∨k.tmod 7=2∨k.tmod 7=3∨k.tmod 7=4∨k.tmod 7=5∨k.tmod 7=6:=by
  rw[Int.tmod_eq_emod_of_nonneg hb.1];omega
 rcases h7 with h|h|h|h|h|h|h<;>rw[h]<;>refine Rr ?_
 ·exact bU (r':=.il 1 (aT [])) (.nil 1) ⟨[],by decide,by simp,rfl,rfl,rfl⟩
 ·exact bU (r':=.il 1 (aT [0])) (j9 (id:=0) rfl rfl rfl (aQ _)) ⟨[0],by decide,by simp[i64],rfl,rfl,rfl⟩
 ·exact bU (r':=.il 1 (aT [1])) (j9 (id:=1) rfl rfl rfl (aQ _)) ⟨[1],by decide,by simp[i64],rfl,rfl,rfl⟩
 ·exact bU (r':=.il 1 (aT [12])) (j9 (id:=2) rfl rfl rfl (aQ _)) ⟨[12],by decide,by simp[i64],rfl,rfl,rfl⟩
 ·exact bU (r':=.il 1 (aT [0,0])) (j9 (id:=3) rfl rfl rfl (aQ _)) ⟨[0,0],by decide,by simp[i64],rfl,rfl,rfl⟩
 ·exact bU (r':=.il 1 (aT [1,2])) (j9 (id:=4) rfl rfl rfl (aQ _)) ⟨[1,2],by decide,by simp[i64],rfl,rfl,rfl⟩
 ·exact bU (r':=.il 1 (aT [1,2,3])) (j9 (id:=5) rfl rfl rfl (aQ _)) ⟨[1,2,3],by decide,by simp[i64],rfl,rfl,rfl⟩
theorem Oz(n:Int)(hn:i64 n):aG prog [] 23 [.int .i64 n] [] 0 fun r m k=>∃o:Oc,r=NS o/\m=[]/\k=0:=by
 have hA:=zW n 60 hn (by decide);have hb:=kZ (n:=n) (most:=60) (by decide);generalize kY n 60=k at *;refine aM bG func23 rfl ?_;refine Rr ?_;refine hA.go ?_;refine Rr ?_;exact aB (pF ⟨_,_,_⟩) ⟨⟨_,_,_⟩,rfl,rfl,rfl⟩
set_option maxHeartbeats 8000000
theorem DM{l:List Int}{k:Nat}(h:k<l.length){z:Int}(hz:z=(k:Int)):(aT l)[z.toNat]? = some (.int .i64 l[k]):=by
 rw[hz,Int.toNat_natCast,bF,List.getElem?_eq_getElem h];rfl
theorem NX{mem:aN}{σ:List (Nat × Nat)}{xs ys ys':List AV}(h:qS mem σ xs ys)(e:ys'=ys):qS mem σ xs ys':=by rw[e];exact h
def QC(g:Gr):Prop:=(∀x∈g.min,i64 x)/\g.min.length<=3/\g.fs.length<=3/\∀f∈g.fs,(∀x∈f.path,i64 x)/\f.path.length<=3
theorem Ox(l:List Int)(hl:∀x∈l,i64 x)(hlen:l.length<=17592186043904)(most:Nat)(hmo:most<=12):aG prog [] 6 [.il 1 (aT l),.int .i64 most] [] 0 fun r m k=>
  ∃G:List Gr,G.length<=most/\(∀g∈G,QC g)/\r = .sl 0 0 G.length/\m=[(0,.row 37 5 (eB G))]/\k=1:=by
 have nl:NN (.il 1 (aT l)):=.il' (aQ l);have ll:=aD l;refine aM bG func6 rfl ?_;refine Rr ?_;refine a9.ph 37 5 ?_;refine a9.at bG (fun G:List Gr=>G.length<=most/\∀g∈G,QC g)
  (fun G=>⟨[(0,.il 1 (aT l)),(1,.int .i64 most),(5,.sl 0 0 G.length),(6,.int .i64 ((4*G.length:Nat):Int))],[(0,.row 37 5 (eB G))],1,73⟩) (fun G=>most-G.length) [] [(0,0)] (by simp)
  (aE _ rfl ⟨⟨0,_,rfl,rfl,.nil⟩,trivial⟩ ⟨aR nl,aF,⟨_,rfl,.nslk 0 0 _ rfl rfl⟩,aF,trivial⟩) ?_
 rintro G ⟨hG,hGi⟩;have w3:IntKind.i64.wrap (((4*G.length:Nat):Int)+3)=((4*G.length:Nat):Int)+3:=cK ⟨om,om⟩;have w1:IntKind.i64.wrap (((4*G.length:Nat):Int)+1)=((4*G.length:Nat):Int)+1:=cK ⟨om,om⟩;have w2:IntKind.i64.wrap (((4*G.length:Nat):Int)+2)=((4*G.length:Nat):Int)+2:=cK ⟨om,om⟩;have wm:IntKind.i64.wrap (4*(most:Int))=4*(most:Int):=cK ⟨om,om⟩;refine Rr ?_;rw[w3];refine aH (fun hb=>?_) (fun hb=>?_)
 rotate_left
 ·rw[hb];refine Rr ?_;exact bN (r':=.sl 0 0 G.length) (m':=[(0,.row 37 5 (eB G))]) (n':=1) [(0,0)] rfl ⟨aJ 0 (eJ _),trivial⟩ (.sl 0 0 0 _ rfl) ⟨G,hG,hGi,rfl,rfl,rfl⟩
 rw[hb];have h3:4*G.length+3<l.length:=by have:=of_decide_eq_true hb;omega
 refine Rr ?_;rw[wm];refine aH (fun hb2=>?_) (fun hb2=>?_)
 rotate_left
 ·rw[hb2];refine Rr ?_;exact bN (r':=.sl 0 0 G.length) (m':=[(0,.row 37 5 (eB G))]) (n':=1) [(0,0)] rfl ⟨aJ 0 (eJ _),trivial⟩ (.sl 0 0 0 _ rfl) ⟨G,hG,hGi,rfl,rfl,rfl⟩
 rw[hb2];have hlt:G.length<most:=by have:=of_decide_eq_true hb2;omega
 have e0:=DM (l:=l) (k:=4*G.length) om rfl;have e1:=DM (l:=l) (k:=4*G.length+1) (z:=((4*G.length:Nat):Int)+1) om om;have e2:=DM (l:=l) (k:=4*G.length+2) (z:=((4*G.length:Nat):Int)+2) om om;have e3:=DM (l:=l) (k:=4*G.length+3) (z:=((4*G.length:Nat):Int)+3) om om;have i0:=hl _ (List.getElem_mem (show 4*G.length<l.length by omega));have i1:=hl _ (List.getElem_mem (show 4*G.length+1<l.length by omega));have i2:=hl _ (List.getElem_mem (show 4*G.length+2<l.length by omega));have i3:=hl _ (List.getElem_mem (show 4*G.length+3<l.length by omega));generalize l[4*G.length]=n0 at e0 i0;generalize l[4*G.length+1]=n1 at e1 i1;generalize l[4*G.length+2]=n2 at e2 i2;generalize l[4*G.length+3]=n3 at e3 i3;have hP:=Mv n0 i0;have hO:=Oz n1 i1;refine Rr ?_;refine aC e0 ?_;refine Rr ?_;rw[w1];refine Rr ?_;refine aC e1 ?_;refine Rr ?_;refine aG.go0 hP ?_;rintro r m k ⟨p,hp1,hp2,rfl,rfl,rfl⟩;have np:NN (.il 1 (aT p)):=.il' (aQ p);have lp:=aD p;refine⟨_,.same _ np, ?_⟩;refine Rr ?_;repeat((first|refine aC e0 ?_|refine aC e1 ?_|refine aX ?_);refine Rr ?_)
 refine aG.go0 hO ?_;rintro r m k ⟨o,rfl,rfl,rfl⟩;refine⟨_,.same _ (pF o), ?_⟩;obtain⟨o1,o2,o3⟩:=o;refine Rt ?_;refine a9.ph 64 4 ?_;refine a9.at bG (fun fs:List Fl=>fs.length<=3/\∀f∈fs,(∀x∈f.path,i64 x)/\f.path.length<=3)
  (fun fs=>⟨[(0,.il 1 (aT l)),(1,.int .i64 most),(5,.sl 0 0 G.length),(6,.int .i64 ((4*G.length:Nat):Int)),(7,.ptr 1 0 0),(8,.int .i64 fs.length)],[(0,.row 37 5 (eB G)),(1,.row 37 5 [.agg [.il 1 (aT p),.int .i64 o1,.int .i64 o2,.int .i64 o3,.sl 2 0 fs.length]]),(2,.row 64 4 (jS fs))],3,73⟩) (fun fs=>3-fs.length) [] [(0,0),(13,1),(15,2)] (by simp)
  (aE _ rfl ⟨aJ 0 (eJ G),⟨13,_,rfl,rfl,.cons (.agg (.cons (.same _ np) (.s (.s (.s (.cons (.nslk 15 2 _ rfl rfl) .nil)))))) .nil⟩,⟨15,_,rfl,rfl,.nil⟩,trivial⟩ ⟨aR nl,aF,⟨_,rfl,.sl 0 0 0 _ rfl⟩,aF,aK,aF,trivial⟩) ?_
 rintro fs ⟨hf1,hf2⟩;have lf:=pM fs;have lG:=l7 G;have hA:=zW n2 4 i2 (by decide);have hAb:=kZ (n:=n2) (most:=4) (by decide);generalize kY n2 4=m at hA hAb;refine Rr ?_;rw[w2];refine Rr ?_;refine aC e2 ?_;refine Rr ?_;refine hA.go ?_;refine Rr ?_;refine aH (fun hb3=>?_) (fun hb3=>?_)
 ·have hlt3:fs.length<3:=by have:=of_decide_eq_true hb3;omega
  rw[hb3];have hP:=Mv (IntKind.i64.wrap (n3+IntKind.i64.wrap (3*(fs.length:Int)))) (Ey _);have hO:=Oz (IntKind.i64.wrap (n1+IntKind.i64.wrap ((fs.length:Int).tdiv 2))) (Ey _);refine Rr ?_;rw[w3];refine Rr ?_;refine aC e3 ?_;refine Rr ?_;rw[w1];refine Rr ?_;repeat((first|refine aC e3 ?_|refine aC e1 ?_|refine aX ?_);refine Rr ?_)
  refine aG.go0 hP ?_;rintro r m' k ⟨q,hp1',hp2',rfl,rfl,rfl⟩;have nq:NN (.il 1 (aT q)):=.il' (aQ q);refine⟨_,.same _ nq, ?_⟩;refine Rr ?_;repeat((first|refine aC e3 ?_|refine aC e1 ?_|refine aX ?_);refine Rr ?_)
  refine aG.go0 hO ?_;rintro r m' k ⟨⟨u1,u2,u3⟩,rfl,rfl,rfl⟩;refine⟨_,.same _ (pF ⟨u1,u2,u3⟩), ?_⟩;refine Rr ?_;repeat((first|refine aC e3 ?_|refine aC e1 ?_|refine aX ?_);refine Rr ?_)
  refine aP (bV rfl rfl (by rw[lf]) (by simp;omega)) ?_;refine Rt ?_;repeat((first|refine aC e3 ?_|refine aC e1 ?_);refine Rt ?_)
  exact .mk (fs++[⟨q,⟨u1,u2,u3⟩⟩]) [(0,0),(1,1),(28,2)] ⟨by simp;omega,fun f hf=>by
    rcases List.mem_append.1 hf with hf|hf
    ·exact hf2 f hf
    ·simp at hf;subst hf;exact⟨hp2',hp1'⟩⟩
   (aE _ rfl ⟨aJ 0 (eJ G),⟨1,_,rfl,rfl,.cons (.agg (.cons (.same _ np) (.s (.s (.s (.cons (.slE rfl (by simp)) .nil)))))) .nil⟩,⟨28,_,rfl,rfl,.eq (mZ _) (by simp[jS,KR])⟩,trivial⟩ ⟨aR nl,aF,⟨_,rfl,.sl 0 0 0 _ rfl⟩,aF,aK,⟨_,rfl,.int (by rw[cK ⟨om,om⟩];simp)⟩,trivial⟩) (by simp;omega)
 ·rw[hb3];refine Rr ?_;refine aP (bV rfl rfl (by rw[lG]) (by simp;omega)) ?_;refine Rr ?_;refine .mk (G++[⟨p,⟨o1,o2,o3⟩,fs⟩]) [(4,0)] ⟨by simp;omega,fun g hg=>by
    rcases List.mem_append.1 hg with hg|hg
    ·exact hGi g hg
    ·simp at hg;subst hg;exact⟨hp2,hp1,hf1,hf2⟩⟩
   (aE _ rfl ⟨⟨4,_,rfl,rfl,NX (qS.snoc (y:=oI ⟨p,⟨o1,o2,o3⟩,fs⟩) rfl (.same (eJ G)) (.agg (.cons (.same _ np) (.s (.s (.s (.cons (.fzR (id:=2) rfl rfl (.same (mZ fs)) lf) .nil))))))) (by simp[eB])⟩,trivial⟩ ⟨aR nl,aF,⟨_,rfl,.slE rfl (by simp)⟩,⟨_,rfl,.int (by rw[cK ⟨om,om⟩];simp;omega)⟩,trivial⟩) (by simp;omega)
set_option maxHeartbeats 8000000
theorem JX{l:List Fl}{k:Nat}(h:k<l.length):(jS l)[((k:Nat):Int).toNat]? = some (KR l[k]):=by
 simp[jS,List.getElem?_eq_getElem h]
theorem Nv(l:List Fl)(hl:l.length<=1000):a8 prog [] 24 [.il 4 (jS l)] (.il 4 (jS l)):=by
 have nl:NN (.il 4 (jS l)):=.il' (mZ l);have ll:=pM l;refine aM bG func24 rfl ?_;refine Rr ?_;refine a9.ph 71 4 ?_;refine a9.at bG (fun k:Nat=>k<=l.length)
  (fun k=>⟨[(0,.il 4 (jS l)),(3,.sl 0 0 k),(4,.int .i64 k)],[(0,.row 71 4 (jS (l.take k)))],1,26⟩) (fun k=>l.length-k) 0 [(0,0)] (by simp)
  (aE _ rfl ⟨⟨0,_,rfl,rfl,.nil⟩,trivial⟩ ⟨aR nl,⟨_,rfl,.nslk 0 0 _ rfl rfl⟩,aF,trivial⟩) ?_
 intro k hk;have lk:(jS (l.take k)).length=k:=by rw[pM,List.length_take];omega
 refine Rr ?_;refine aH (fun hb=>?_) (fun hb=>?_)
 ·rw[hb];have hlt:k<l.length:=by have:=of_decide_eq_true hb;omega
  have e:=JX hlt;have e2:jS (l.take (k+1))=jS (l.take k)++[KR l[k]]:=by rw[List.take_succ_eq_append_getElem hlt,jS,List.map_append];rfl
  have hn:=HM l[k];generalize l[k]=f at e e2 hn;obtain⟨p,o1,o2,o3⟩:=f;refine Rr ?_;repeat((first|refine aC e ?_|refine aX ?_);refine Rr ?_)
  refine aP (bV rfl rfl (by rw[lk]) (by simp;omega)) ?_;refine Rr ?_;repeat((first|refine aC e ?_|refine aX ?_);refine Rr ?_)
  exact .mk (k+1) [(16,0)] om (aE _ rfl ⟨⟨16,_,rfl,rfl,.eq (mZ _) (by rw[e2];rfl)⟩,trivial⟩ ⟨aR nl,⟨_,rfl,.slE rfl (by simp)⟩,⟨_,rfl,.w64 om ⟨om,om⟩⟩,trivial⟩) om
 ·rw[hb];refine Rr ?_;have:k=l.length:=by have:=of_decide_eq_false hb;omega
  subst this;exact bU (r':=.il 4 (jS l)) (.fzR (id:=0) rfl rfl (.eq (mZ _) (by rw[List.take_length])) ll) ⟨rfl,rfl,rfl⟩
theorem Q6(l:List Gr)(hl:l.length<=1000)(hi:∀g∈l,g.fs.length<=1000):a8 prog [] 7 [.il 5 (eB l)] (.il 5 (eB l)):=by
 have nl:NN (.il 5 (eB l)):=.il' (eJ l);have ll:=l7 l;refine aM bG func7 rfl ?_;refine Rr ?_;refine a9.ph 33 5 ?_;refine a9.at bG (fun k:Nat=>k<=l.length)
  (fun k=>⟨[(0,.il 5 (eB l)),(3,.sl 0 0 k),(4,.int .i64 k)],[(0,.row 33 5 (eB (l.take k)))],1,32⟩) (fun k=>l.length-k) 0 [(0,0)] (by simp)
  (aE _ rfl ⟨⟨0,_,rfl,rfl,.nil⟩,trivial⟩ ⟨aR nl,⟨_,rfl,.nslk 0 0 _ rfl rfl⟩,aF,trivial⟩) ?_
 intro k hk;have lk:(eB (l.take k)).length=k:=by rw[l7,List.length_take];omega
 refine Rr ?_;refine aH (fun hb=>?_) (fun hb=>?_)
 ·rw[hb];have hlt:k<l.length:=by have:=of_decide_eq_true hb;omega
  have e:=v6 hlt;have e2:eB (l.take (k+1))=eB (l.take k)++[oI l[k]]:=by rw[List.take_succ_eq_append_getElem hlt,eB,List.map_append];rfl
  have hn:=wG l[k];have hF:=Nv l[k].fs (hi _ (List.getElem_mem hlt));generalize l[k]=f at e e2 hn hF;obtain⟨p,⟨o1,o2,o3⟩,fs⟩:=f;have nf:NN (.il 4 (jS fs)):=.il' (mZ fs);refine Rr ?_;repeat((first|refine aC e ?_|refine aX ?_);refine Rr ?_)
  refine hF.go ?_ (.cons nf .nil) nf;refine Rr ?_;repeat((first|refine aC e ?_|refine aX ?_);refine Rr ?_)
  refine aP (bV rfl rfl (by rw[lk]) (by simp;omega)) ?_;refine Rr ?_;repeat((first|refine aC e ?_|refine aX ?_);refine Rr ?_)
  exact .mk (k+1) [(22,0)] om (aE _ rfl ⟨⟨22,_,rfl,rfl,.eq (eJ _) (by rw[e2];rfl)⟩,trivial⟩ ⟨aR nl,⟨_,rfl,.slE rfl (by simp)⟩,⟨_,rfl,.w64 om ⟨om,om⟩⟩,trivial⟩) om
 ·rw[hb];refine Rr ?_;have:k=l.length:=by have:=of_decide_eq_false hb;omega
  subst this;exact bU (r':=.il 5 (eB l)) (.fzR (id:=0) rfl rfl (.eq (eJ _) (by rw[List.take_length])) ll) ⟨rfl,rfl,rfl⟩
theorem Cr{l:List a7}{k:Nat}{v a:a7}(h:l[k]? = some a):DZ l k v=(bW a v == 0):=by simp[DZ,h]
theorem Co{l:List a7}{k:Nat}{v:a7}(h:l.length<=k):DZ l k v=false:=by simp[DZ,List.getElem?_eq_none h]
theorem M1(l:List a7)(v:a7)(hl:l.length<=4294967296)(hok:∀a∈l,gD a) :
  a8 prog [] 118 [.il 4 (aO l),bK v] (.tup [.int .i64 (dL l v).1,.bool (dL l v).2]):=by
 obtain⟨vk,vn,vs,vks⟩:=v;have nl:NN (.il 4 (aO l)):=.il' (aS l);have nt:∀(k:Int) (b:Bool),NN (.tup [.int .i64 k,.bool b]):=fun k b=>.tup' (.cons (.int _ _) (.cons (.bool _) .nil))
 refine e9 bG func118 rfl ?_
 conv=>whnf
 refine dI.loopAt bG (fun k:Nat=>k<=l.length/\∀p a,p<k->l[p]? = some a->bW a (.mk vk vn vs vks)<0)
  (fun k=>⟨[(0,.il 4 (aO l)),(3,.ptr 0 0 0),(6,.int .i64 k)],[(0,.row 57 4 [bK (.mk vk vn vs vks)])],1,27⟩)
  (fun k=>l.length-k) 0 [(0,0)] ⟨by simp,by simp⟩
  (aE _ rfl ⟨aJ 0 (.cons (bM _) .nil),trivial⟩ ⟨aR nl,aK,aR (.int _ _),trivial⟩) ?_
 rintro k ⟨h1,h2⟩
 conv=>whnf
 refine aH (fun h=>?_) (fun h=>?_)
 ·have hk:k<l.length:=by rw[aA] at h;simpa using h
  have e:=xW hk;obtain⟨⟨ak,an,az,aks⟩,hv⟩:∃a,a=l[k]:=⟨_,rfl⟩
  rw[←hv] at e;have hm:a7.mk ak an az aks∈l:=by rw[hv];exact List.getElem_mem hk
  have hg:l[k]? = some (a7.mk ak an az aks):=by rw[hv];exact List.getElem?_eq_getElem hk
  conv=>whnf
  refine aC e ?_
  conv=>whnf
  refine(sL (.mk ak an az aks) (.mk vk vn vs vks) (hok _ hm)).use bG (.cons (bM _) (.cons (bM _) .nil)) (.int _ _) ?_
  conv=>whnf
  refine aH (fun h3=>?_) (fun h3=>?_)
  ·have h3:0<=bW (.mk ak an az aks) (.mk vk vn vs vks):=by simpa using h3
   conv=>whnf
   refine aB (nt _ _) ⟨?_,rfl,rfl⟩;rw[rH h1 h2 (fun a ha=>by rw[hg] at ha;cases ha;exact h3),Cr hg]
  ·have h3:bW (.mk ak an az aks) (.mk vk vn vs vks)<0:=by simpa using h3
   conv=>whnf
   refine .mk (k+1) [(0,0)] ⟨om,fun p a hp ha=>?_⟩ (aE _ rfl ⟨aJ 0 (.cons (bM _) .nil),trivial⟩ ⟨aR nl,aK,⟨_,rfl,.eq (.int _ _) ?_⟩,trivial⟩) om
   ·rcases Nat.lt_or_ge p k with hp'|hp'
    ·exact h2 p a hp' ha
    ·have:p=k:=om;subst this;rw[hg] at ha;cases ha;exact h3
   ·rw[cK ⟨om,om⟩];rfl
 ·have hk:k=l.length:=by rw[aA] at h;simp at h;omega
  conv=>whnf
  refine aB (nt _ _) ⟨?_,rfl,rfl⟩;rw[rH h1 h2 (fun a ha=>by rw[List.getElem?_eq_none om] at ha;cases ha),Co om,aA,hk]
theorem L7(l:List a7)(v:a7)(hl:l.length<=4294967296)(hok:∀a∈l,gD a)(hs:kL l) :
  a8 prog [] 177 [.il 4 (aO l),bK v,.fn (.func 48) [] []] (.tup [.int .i64 (dL l v).1,.bool (dL l v).2]):=by
 obtain⟨vk,vn,vs,vks⟩:=v;have nl:NN (.il 4 (aO l)):=.il' (aS l);have nf:NN (.fn (.func 48) [] []):=.fn _ _ _ (by simp) (by simp);have nt:∀(k:Int) (b:Bool),NN (.tup [.int .i64 k,.bool b]):=fun k b=>.tup' (.cons (.int _ _) (.cons (.bool _) .nil))
 refine e9 bG func177 rfl ?_
 conv=>whnf
 refine dI.loopAt bG (fun x:Nat × Nat=>x.1<=x.2/\x.2<=l.length/\(∀p a,p<x.1->l[p]? = some a->bW a (.mk vk vn vs vks)<0)/\∀a,l[x.2]? = some a->0<=bW a (.mk vk vn vs vks))
  (fun x=>⟨[(0,.il 4 (aO l)),(2,.fn (.func 48) [] []),(4,.ptr 0 0 0),(8,.int .i64 (aO l).length),(9,.int .i64 x.1),(10,.int .i64 x.2)],[(0,.row 57 4 [bK (.mk vk vn vs vks)])],1,49⟩)
  (fun x=>x.2-x.1) (0,l.length) [(0,0)] ⟨by simp,by simp,by simp,fun a ha=>by simp at ha⟩
  (aE _ rfl ⟨aJ 0 (.cons (bM _) .nil),trivial⟩ ⟨aR nl,aR nf,aK,aR (.int _ _),aR (.int _ _),⟨_,rfl,.eq (.int _ _) (by rw[aA])⟩,trivial⟩) ?_
 rintro⟨i,j⟩ ⟨h1,h2,h3,h4⟩
 dsimp only at h1 h2 h3 h4 ⊢
 conv=>whnf
 refine aH (fun h=>?_) (fun h=>?_)
 ·have hij:i<j:=by simpa using h
  have hw1:IntKind.i64.wrap ((i:Int)+j)=((i+j:Nat):Int):=cK ⟨om,om⟩;have hw2:IntKind.u64.wrap ((i+j:Nat):Int)=((i+j:Nat):Int):=IntWalk.u64_in _ ⟨om,om⟩;have hw3:((i+j:Nat):Int).fdiv (2 ^ min (Int.toNat 1) IntKind.u64.bits)=(((i+j)/2:Nat):Int):=by
   rw[show (2:Int) ^ min (Int.toNat 1) IntKind.u64.bits=2 from rfl,Int.fdiv_eq_ediv_of_nonneg _ om];omega
  have hw4:IntKind.i64.wrap (((i+j)/2:Nat):Int)=(((i+j)/2:Nat):Int):=cK ⟨om,om⟩;generalize hm:(i+j)/2=m at *;have hm1:i<=m:=om;have hm2:m<j:=om;have hk:m<l.length:=om;have e:=xW hk;obtain⟨⟨ak,an,az,aks⟩,hv⟩:∃a,a=l[m]:=⟨_,rfl⟩
  rw[←hv] at e;have hmem:a7.mk ak an az aks∈l:=by rw[hv];exact List.getElem_mem hk
  have hg:l[m]? = some (a7.mk ak an az aks):=by rw[hv];exact List.getElem?_eq_getElem hk
  conv=>whnf
  rw[hw1,hw2,hw3,hw4]
  conv=>whnf
  refine aC e ?_
  conv=>whnf
  refine(lN (.mk ak an az aks) (.mk vk vn vs vks) (hok _ hmem)).use bG (.cons (bM _) (.cons (bM _) .nil)) (.int _ _) ?_
  conv=>whnf
  refine aH (fun h5=>?_) (fun h5=>?_)
  ·have h5:bW (.mk ak an az aks) (.mk vk vn vs vks)<0:=by simpa using h5
   conv=>whnf
   refine .mk (m+1,j) [(0,0)] ⟨by simp only;omega,h2,fun p a hp ha=>?_,h4⟩ (aE _ rfl ⟨aJ 0 (.cons (bM _) .nil),trivial⟩ ⟨aR nl,aR nf,aK,aR (.int _ _),⟨_,rfl,.eq (.int _ _) ?_⟩,aR (.int _ _),trivial⟩) (by simp only;omega)
   ·simp only at hp;rcases Nat.lt_or_ge p m with hp'|hp'
    ·exact QP (by have:=hs.get hp' ha hg;omega) h5
    ·have:p=m:=om;subst this;rw[hg] at ha;cases ha;exact h5
   ·rw[cK ⟨om,om⟩];rfl
  ·have h5:0<=bW (.mk ak an az aks) (.mk vk vn vs vks):=by simpa using h5
   conv=>whnf
   exact .mk (i,m) [(0,0)] ⟨hm1,by simp only;omega,h3,fun a ha=>by rw[hg] at ha;cases ha;exact h5⟩ (aE _ rfl ⟨aJ 0 (.cons (bM _) .nil),trivial⟩ ⟨aR nl,aR nf,aK,aR (.int _ _),aR (.int _ _),aR (.int _ _),trivial⟩) (by simp only;omega)
 ·have hij:i=j:=by simp at h;omega
  subst hij;have hf:=rH h2 h3 h4
  conv=>whnf
  refine aH (fun h5=>?_) (fun h5=>?_)
  ·have hk:i<l.length:=by rw[aA] at h5;simpa using h5
   have e:=xW hk;obtain⟨⟨ak,an,az,aks⟩,hv⟩:∃a,a=l[i]:=⟨_,rfl⟩
   rw[←hv] at e;have hmem:a7.mk ak an az aks∈l:=by rw[hv];exact List.getElem_mem hk
   have hg:l[i]? = some (a7.mk ak an az aks):=by rw[hv];exact List.getElem?_eq_getElem hk
   rw[h5]
   conv=>whnf
   refine aC e ?_
   conv=>whnf
   refine(lN (.mk ak an az aks) (.mk vk vn vs vks) (hok _ hmem)).use bG (.cons (bM _) (.cons (bM _) .nil)) (.int _ _) ?_
   conv=>whnf
   refine aB (nt _ _) ⟨?_,rfl,rfl⟩;rw[hf,Cr hg]
  ·have hk:l.length<=i:=by rw[aA] at h5;simpa using h5
   rw[h5]
   conv=>whnf
   refine aB (nt _ _) ⟨?_,rfl,rfl⟩;rw[hf,Co hk]
theorem P0(l:List a7)(v:a7)(hl:l.length<=4294967296)(hok:∀a∈l,gD a)(hs:kL l) :
  a8 prog [] 156 [.il 4 (aO l),bK v] (.tup [.int .i64 (dL l v).1,.bool (dL l v).2]):=by
 obtain⟨vk,vn,vs,vks⟩:=v;have nl:NN (.il 4 (aO l)):=.il' (aS l);have nf:NN (.fn (.func 48) [] []):=.fn _ _ _ (by simp) (by simp);have nt:∀(k:Int) (b:Bool),NN (.tup [.int .i64 k,.bool b]):=fun k b=>.tup' (.cons (.int _ _) (.cons (.bool _) .nil))
 refine e9 bG func156 rfl ?_
 conv=>whnf
 refine(L7 l (.mk vk vn vs vks) hl hok hs).use bG (.cons nl (.cons (bM _) (.cons nf .nil))) (nt _ _) ?_
 conv=>whnf
 exact aB (nt _ _) ⟨rfl,rfl,rfl⟩
end Go.Proofs.YtobknjmfgjaehaaGreatDoor
namespace Go.Ax
open Go
def Py(p s:List UInt8):Option (List UInt8):=if p.isPrefixOf s then some (s.drop p.length) else none
structure P7(x:Nd):Prop where
 ok:qG x
 rng:x.lo<=x.hi/\-4611686018427387904<=x.lo/\x.hi<=4611686018427387904/\x.hi<x.lo+1099511627776
 klen:x.kids.length<=2000
 kl2:x.kind=2->x.kids.length<=1000
 ch:x.kind=2->1<=x.kids.length/\(x.labels.length=0∨x.labels.length=x.kids.length)
theorem qD(ns:List Nd)(h:bT [] ns=0):∀(j:Nat) (x:Nd),ns[j]? = some x->eO j x=0:=by
 refine dP (P:=fun ns=>bT [] ns=0->∀(j:Nat) (x:Nd),ns[j]? = some x->eO j x=0) (fun _ j x hx=>by simp at hx) (fun l x ih h=>?_) ns h;have h1:=g5 h;have ih:=ih h1;have hs:=eT [] l x h1;rw[h] at hs;simp only[List.nil_append] at hs;obtain⟨hg,-,-,-⟩:=e6 hs.symm;intro j y hy;rcases Nat.lt_or_ge j l.length with hj|hj
 ·rw[List.getElem?_append_left hj] at hy;exact ih j y hy
 ·rw[List.getElem?_append_right hj] at hy;have e:j-l.length=0:=by
   have:=(List.getElem?_eq_some_iff.1 hy).1;simp at this;omega
  rw[e] at hy;simp at hy;subst hy;rw[show j=l.length by omega];exact hg
structure RR(LB:List (List UInt8))(x:Nd):Prop where
 opt:P7 x
 lab:∀s∈x.labels,s∈LB
 ll:x.labels.length<=1000
theorem wY{bs:List f6}:∀(l:List Int) (a:List a7 × Bool),a.2=true->(l.foldl (bJ bs) a).2=true
 | [],_,h=>h
 | k::r,a,h=>wY r _ (by simp[bJ,h])
theorem wW{l:List a7}(h:l≠[]):dV l≠[]:=by
 cases l with
 | nil=>exact absurd rfl h
 | cons a r=>exact List.ne_nil_of_mem ((mM (a::r) a).2 (by simp))
theorem Fj{bs:List f6}:∀(l:List Int) (a:List a7 × Bool),a.1≠[]->(l.foldl (bJ bs) a).1≠[]
 | [],_,h=>h
 | k::r,a,h=>Fj r _ (wW (by simp[h]))
theorem NG{bs:List f6}{l:List Int}(hl:l≠[])(h:∀k∈l,(cT bs k).many=false->(cT bs k).vals≠[])(hm:(kI bs l).many=false):(kI bs l).vals≠[]:=by
 unfold kI at hm ⊢;split at hm
 ·simp at hm
 ·rename_i hf;rw[if_neg hf];simp only;cases l with
  | nil=>exact absurd rfl hl
  | cons k r=>
   simp only[List.foldl_cons] at hf ⊢;have hk:(bJ bs ([],false) k).2=false:=by
    cases e:(bJ bs ([],false) k).2 with
    | false=>rfl
    | true=>exact absurd (wY r _ e) hf
   refine Fj r _ (wW ?_);simp only[bJ,Bool.false_or,Bool.or_eq_false_iff] at hk;simp only[List.nil_append];exact h k (by simp) hk.1
theorem HQ{bs:List f6}:∀(kids:List Int) (rows out:List (List a7)),rows≠[]->(∀k∈kids,(cT bs k).many=false->(cT bs k).vals≠[])->d9 bs kids rows=some out->out≠[]
 | [],rows,out,h,_,h2=>by
  simp only[d9] at h2;cases h2;exact h
 | k::ks,rows,out,h,hk,h2=>by
  simp only[d9] at h2;split at h2
  ·cases h2
  ·rename_i hc;rw[not_or] at hc;refine HQ ks _ out ?_ (fun q hq=>hk q (by simp[hq])) h2;have hv:=hk k (by simp) (by simpa using hc.1);have:=sT (cT bs k).vals rows;intro e;rw[e] at this;have a:=List.length_pos_iff.2 h;have b:=List.length_pos_iff.2 hv;have:=Nat.mul_pos a b;simp at *;omega
theorem kV(ns:List Nd)(h:bT [] ns=0):∀(j:Nat) (x:Nd),ns[j]? = some x->fS (ns.take j) (aY (ns.take j)) (b9 (ns.take j)) x=0:=by
 intro j x hx;obtain⟨hj,he⟩:=List.getElem?_eq_some_iff.1 hx;have e:ns=ns.take j++x::ns.drop (j+1):=by
  rw[←he];simp
 have h1:bT [] (ns.take j)=0:=by
  rw[e] at h;exact g5 h
 have h2:bT [] (ns.take j++[x])=0:=by
  have e2:ns=(ns.take j++[x])++ns.drop (j+1):=by simpa using e
  rw[e2] at h;exact g5 h
 rw[eT [] _ x h1] at h2;simpa using h2
theorem mG{i:Int}{x:Nd}(h:cX i x=true):(x.kind=2->1<=x.kids.length)/\(x.kind=4->x.kids.length=x.values.length+1):=by
 unfold cX at h;simp only[Bool.and_eq_true,Bool.or_eq_true,decide_eq_true_eq] at h;obtain⟨⟨⟨⟨_,h2⟩,_⟩,h4⟩,_⟩:=h;exact⟨fun e=>by rcases h2 with h2|h2<;>omega,fun e=>om⟩
theorem iD{i:Int}{x:Nd}(h:eO i x=0):cX i x=true:=by
 unfold eO at h;split at h
 ·omega
 ·rename_i hf;simpa using hf
theorem ES(ns:List Nd)(ho:∀x∈ns,qG x)(h:bT [] ns=0):∀(n:Nat) (k:Nat),k<=n->k<ns.length->(cT (aL ns) k).many=false->(cT (aL ns) k).vals≠[]:=by
 have hg:=iR ns ho h;intro n
 induction n with
 | zero=>
  intro k hk hlt hm;have hx:=List.getElem?_eq_getElem hlt;have hG:=hg k _ hx;have hst:=kV ns h k _ hx;obtain⟨h1,_,_,h4⟩:=e6 hst;have hlen:(ns.take k).length=k:=by simp;omega
  rw[hlen] at h1;have hfp:=mG (iD h1);have hk0:(ns[k]).kids=[]:=by
   cases e:(ns[k]).kids with
   | nil=>rfl
   | cons q r=>have:=hG.kids 0 q (by rw[e];rfl);omega
  rw[A9 hg hx] at hm ⊢;have hnum:=cD hG.num;rw[hk0] at hfp;simp at hfp;unfold cR at hm ⊢;split
  ·simp
  ·split
   ·split
    ·rename_i e;rw[if_neg (by assumption),if_pos (by assumption),if_pos e] at hm;simp at hm
    ·simp only[fZ];intro e;have:=congrArg List.length e;simp at this;omega
   ·split
    ·unfold nO;rw[hk0];simp[d9,wW]
    ·have:=hG.kind;omega
 | succ n ih=>
  intro k hk hlt hm;have hx:=List.getElem?_eq_getElem hlt;have hG:=hg k _ hx;have hst:=kV ns h k _ hx;obtain⟨h1,_,_,h4⟩:=e6 hst;have hlen:(ns.take k).length=k:=by simp;omega
  rw[hlen] at h1;have hfp:=mG (iD h1);rw[A9 hg hx] at hm ⊢;have hnum:=cD hG.num;have hkid:∀q∈(ns[k]).kids,(cT (aL ns) q).many=false->(cT (aL ns) q).vals≠[]:=fun q hq=>by
   obtain⟨j,hj⟩:=List.getElem?_of_mem hq;obtain⟨q0,q1⟩:=hG.kids j q hj;obtain⟨q,rfl⟩:=Int.eq_ofNat_of_zero_le q0;exact ih q om om
  unfold cR at hm ⊢;split
  ·simp
  ·split
   ·split
    ·rename_i e;rw[if_neg (by assumption),if_pos (by assumption),if_pos e] at hm;simp at hm
    ·simp only[fZ];intro e;have:=congrArg List.length e;simp at this;omega
   ·split
    ·rename_i e0 e1 e3;rw[if_neg e0,if_neg e1,if_pos e3] at hm;unfold nO at hm ⊢;split
     ·rename_i e;rw[e] at hm;simp at hm
     ·rename_i rows e;have:=HQ _ _ _ (by simp) hkid e;exact wW (by simpa using this)
    ·rename_i e0 e1 e3;rw[if_neg e0,if_neg e1,if_neg e3] at hm;refine NG ?_ (fun q hq=>hkid q ?_) hm
     ·split
      ·rename_i e4;have hb:=h4 e4;have hkl:=hfp.2 e4;unfold eF at hb;simp only at hb;split at hb
       ·omega
       ·rename_i hmany;split at hb
        ·rename_i hs;have hsl:=lI hs;have hq:=hG.kids 0 ((ns[k]).kids.getD 0 0) (by
          rw[List.getD_eq_getElem?_getD];have:0<(ns[k]).kids.length:=om;rw[List.getElem?_eq_getElem this];rfl)
         obtain⟨q,hqe⟩:=Int.eq_ofNat_of_zero_le hq.1;rw[hqe] at hsl hmany hq;simp only[Int.toNat_natCast] at hsl hmany;rw[List.take_take,show min (q+1) k=q+1 by omega,iS om om om] at hsl hmany;have:=ih q om om (by simpa using hmany);have:=List.length_pos_iff.2 this;intro e;have:=congrArg List.length e;simp at this;omega
        ·omega
      ·have:=hG.kind;have:=hfp.1 om;exact List.ne_nil_of_length_pos om
     ·split at hq
      ·exact List.mem_of_mem_drop hq
      ·exact hq
def wZ(ss:List Int)(x:Nd):Int:=
 if x.kind=0 then bC x.value else if x.kind=1 then 1 else if x.kind=3 then 1+eH ss x.kids else max 1 (cG ss (dG x))
theorem HB{ss:List Int}{x:Nd}:wZ ss x<=1024↔iY ss x<=1024:=by
 unfold wZ iY;split
 ·rfl
 ·split
  ·rfl
  ·split
   ·rfl
   ·omega
theorem Dk{ns:List Nd}(ho:∀x∈ns,qG x)(h:bT [] ns=0){x:Nd}(hk:x.kind=2∨x.kind=4)(hs:fS ns (aY ns) (b9 ns) x=0):∃q∈dG x,0<=q/\q<ns.length:=by
 obtain⟨h1,_,_,h4⟩:=e6 hs;have hfp:=mG (iD h1);have hn:=jP h1;have mem:∀q∈x.kids,0<=q/\q<ns.length:=fun q hq=>by
  obtain⟨j,hj⟩:=List.getElem?_of_mem hq;exact hn.kids j q hj
 rcases hk with e|e
 ·unfold dG;rw[if_pos e];cases hc:x.kids with
  | nil=>have:=hfp.1 e;rw[hc] at this;simp at this
  | cons q r=>exact⟨q,by simp,mem q (by rw[hc];simp)⟩
 ·unfold dG;rw[if_neg om];have hb:=h4 e;have hkl:=hfp.2 e;have:1<=x.values.length:=by
   unfold eF at hb;simp only at hb;split at hb
   ·omega
   ·rename_i hmany;split at hb
    ·rename_i hs;have hsl:=lI hs;have hlt:0<x.kids.length:=om;have hq:=mem (x.kids.getD 0 0) (by rw[List.getD_eq_getElem?_getD,List.getElem?_eq_getElem hlt];exact List.getElem_mem hlt);obtain⟨q,hqe⟩:=Int.eq_ofNat_of_zero_le hq.1;rw[hqe] at hsl hmany hq;simp only[Int.toNat_natCast] at hsl hmany;rw[iS om om om] at hsl hmany;have:=ES ns ho h q q om om (by simpa using hmany);have:=List.length_pos_iff.2 this;omega
    ·omega
  have hlt:1<x.kids.length:=om;refine⟨x.kids[1], ?_,mem _ (List.getElem_mem hlt)⟩;refine List.mem_of_getElem? (i:=0) ?_;rw[List.getElem?_drop];exact List.getElem?_eq_getElem hlt
theorem D8(ns:List Nd)(ho:∀x∈ns,qG x)(h:bT [] ns=0):∀y∈b9 ns,1<=y:=by
 refine dP (P:=fun ns=>(∀x∈ns,qG x)->bT [] ns=0->∀y∈b9 ns,1<=y) (fun _ _=>by simp[b9]) (fun l x ih ho h=>?_) ns ho h;have h1:=g5 h;have hol:∀y∈l,qG y:=fun y hy=>ho y (List.mem_append_left _ hy)
 have ih:=ih hol h1;have hs:=eT [] l x h1;rw[h] at hs;simp only[List.nil_append] at hs;rw[iV];intro y hy;rcases List.mem_append.1 hy with hy|hy
 ·exact ih y hy
 ·simp at hy;subst hy;have hb:=gE l h1;have hk:=(jP (e6 hs.symm).1).kind;unfold iY;split
  ·have:=Cm x.value;omega
  ·split
   ·omega
   ·split
    ·have:=(g6 om hb.2 x.kids).1;omega
    ·obtain⟨q,hq,q0,q1⟩:=Dk hol h1 om hs.symm;have:=(mO (ss:=b9 l) (dG x) 0 q hq).1;have h2:1<=dK (b9 l) q:=by
      unfold dK;have hlt:q.toNat<(b9 l).length:=by rw[iA];omega
      rw[List.getD_eq_getElem?_getD,List.getElem?_eq_getElem hlt];exact ih _ (List.getElem_mem hlt)
     unfold cG;omega
theorem LY{ns:List Nd}(ho:∀x∈ns,qG x)(h:bT [] ns=0){x:Nd}(hs:fS ns (aY ns) (b9 ns) x=0):wZ (b9 ns) x=iY (b9 ns) x:=by
 have hk:=(jP (e6 hs).1).kind;unfold wZ iY;split
 ·rfl
 ·split
  ·rfl
  ·split
   ·rfl
   ·obtain⟨q,hq,q0,q1⟩:=Dk ho h om hs;have:=(mO (ss:=b9 ns) (dG x) 0 q hq).1;have h2:1<=dK (b9 ns) q:=by
     unfold dK;have hlt:q.toNat<(b9 ns).length:=by rw[iA];omega
     rw[List.getD_eq_getElem?_getD,List.getElem?_eq_getElem hlt];exact D8 ns ho h _ (List.getElem_mem hlt)
    unfold cG at *;omega
theorem HG{a b:List Int}{k:Int}(h0:0<=k)(h:k<a.length):dK (a++b) k=dK a k:=by
 unfold dK;rw[List.getD_eq_getElem?_getD,List.getD_eq_getElem?_getD,List.getElem?_append_left om]
theorem AR{a b:List Int}{l:List Int}(h:∀k∈l,dK a k=dK b k):eH a l=eH b l:=by
 unfold eH;have:∀(l:List Int) (s:Int),(∀k∈l,dK a k=dK b k)->l.foldl (fun s k=>s+dK a k) s=l.foldl (fun s k=>s+dK b k) s:=by
  intro l
  induction l with
  | nil=>intro s _;rfl
  | cons k r ih=>intro s h;simp only[List.foldl_cons];rw[h k (by simp)];exact ih _ fun q hq=>h q (by simp[hq])
 exact this l 0 h
theorem q5{a b:List Int}{l:List Int}(h:∀k∈l,dK a k=dK b k):cG a l=cG b l:=by
 unfold cG;have:∀(l:List Int) (s:Int),(∀k∈l,dK a k=dK b k)->l.foldl (fun s k=>max s (dK a k)) s=l.foldl (fun s k=>max s (dK b k)) s:=by
  intro l
  induction l with
  | nil=>intro s _;rfl
  | cons k r ih=>intro s h;simp only[List.foldl_cons];rw[h k (by simp)];exact ih _ fun q hq=>h q (by simp[hq])
 exact this l 0 h
theorem BL{x:Nd}{q:Int}(h:q∈dG x):q∈x.kids:=by
 unfold dG at h;split at h
 ·exact h
 ·exact List.mem_of_mem_drop h
theorem u7{a b:List Int}{x:Nd}(h:∀k∈x.kids,dK a k=dK b k)(h4:x.kind=4->0<x.kids.length)(hk:0<=x.kind/\x.kind<=4):eC a x=eC b x:=by
 unfold eC;split
 ·rfl
 ·split
  ·rfl
  ·split
   ·exact AR h
   ·split
    ·rw[q5 fun q hq=>h q (BL hq)]
    ·have:0<x.kids.length:=h4 om;rw[q5 fun q hq=>h q (BL hq),h (x.kids.getD 0 0) (by rw[List.getD_eq_getElem?_getD,List.getElem?_eq_getElem this];exact List.getElem_mem this)]
theorem GX{a b:List Int}{x:Nd}(h:∀k∈x.kids,dK a k=dK b k):wZ a x=wZ b x:=by
 unfold wZ;rw[AR h,q5 fun q hq=>h q (BL hq)]
end Go.Ax
namespace Go.Ax
open Go
structure gC(ns:List Nd)(n:Nat):Prop where
 hn:n<=ns.length
 len:ns.length<=4096
 ok:∀x∈ns,qG x
 val:bT [] (ns.take n)=0
variable {ns:List Nd} {n:Nat}
theorem gC.okT(h:gC ns n):∀x∈ns.take n,qG x:=fun x hx=>h.ok x (List.mem_of_mem_take hx)
theorem gC.goodT(h:gC ns n):∀(j:Nat) (x:Nd),(ns.take n)[j]? = some x->gW j x:=iR _ h.okT h.val
theorem BT{i:Nat}{x:Nd}(hi:i<n)(hx:ns[i]? = some x):(ns.take n)[i]? = some x:=by rw[List.getElem?_take,if_pos hi];exact hx
theorem gC.node(h:gC ns n){i:Nat}{x:Nd}(hi:i<n)(hx:ns[i]? = some x):gW i x:=h.goodT i x (BT hi hx)
theorem gC.atE(h:gC ns n){k:Int}(h0:0<=k)(h1:k<n):cT (aL (ns.take n)) k=cT (aL ns) k:=iS h0 h1 h.hn
theorem gC.vals(h:gC ns n){k:Int}(h0:0<=k)(h1:k<n):(cT (aL ns) k).vals.length<=1024/\∀v∈(cT (aL ns) k).vals,gD v:=by
 rw[←h.atE h0 h1];exact o0 (gU _ h.goodT) k
theorem gC.at(h:gC ns n){i:Nat}{x:Nd}(hi:i<n)(hx:ns[i]? = some x):cT (aL ns) i=cR x (aL ns):=by
 rw[←h.atE om om,A9 h.goodT (BT hi hx)];refine yS fun k hk=>?_
 obtain⟨j,hj⟩:=List.getElem?_of_mem hk;obtain⟨h0,h1⟩:=(h.node hi hx).kids j k hj;exact h.atE h0 om
theorem Qn(ns:List Nd)(k:Int):kL (cT (aL ns) k).vals:=Lq (BV ns) k
theorem gC.ne(h:gC ns n){k:Int}(h0:0<=k)(h1:k<n)(hm:(cT (aL ns) k).many=false):(cT (aL ns) k).vals≠[]:=by
 rw[←h.atE h0 h1] at hm ⊢;obtain⟨k,rfl⟩:=Int.eq_ofNat_of_zero_le h0;exact ES _ h.okT h.val k k (Nat.le_refl _) (by rw[List.length_take];have:=h.hn;omega) hm
theorem gC.step(h:gC ns n){i:Nat}{x:Nd}(hi:i<n)(hx:ns[i]? = some x):fS (ns.take i) (aY (ns.take i)) (b9 (ns.take i)) x=0:=by
 have:=kV _ h.val i x (BT hi hx)
 rwa [List.take_take,Nat.min_eq_left om] at this
theorem gC.nodeOK(h:gC ns n){i:Nat}{x:Nd}(hi:i<n)(hx:ns[i]? = some x):Dv i x:=by
 have:=jP (e6 (h.step hi hx)).1
 rwa [List.length_take,Nat.min_eq_left (by have:=h.hn;omega)] at this
theorem Ni{bs:List f6}{kids:List Int}{j:Nat}{k:Int}{a:List a7 × Bool}(hk:kids[j]? = some k)(h:(kids.take j).foldl (bJ bs) ([],false)=a) :
  (kids.take (j+1)).foldl (bJ bs) ([],false)=bJ bs a k:=by
 obtain⟨hj,he⟩:=List.getElem?_eq_some_iff.1 hk;rw[List.take_succ_eq_append_getElem hj,List.foldl_append,h,he];rfl
theorem HF{bs:List f6}{kids:List Int}{j:Nat}(h:((kids.take j).foldl (bJ bs) ([],false)).2=true):kI bs kids=⟨[],true⟩:=by
 have e:(kids.foldl (bJ bs) ([],false)).2=true:=by
  conv=>lhs;rw[←List.take_append_drop j kids,List.foldl_append]
  exact wY _ _ h
 unfold kI;rw[if_pos e]
theorem KC{bs:List f6}{kids:List Int}{out:List a7}(h:kids.foldl (bJ bs) ([],false)=(out,false)):kI bs kids=⟨out,false⟩:=by
 unfold kI;rw[h];rfl
def fT(bs:List f6)(a:Nat × Bool)(k:Int):Nat × Bool:=(a.1*(cT bs k).vals.length,a.2 || (cT bs k).many || decide (1024<a.1*(cT bs k).vals.length))
theorem E0{bs:List f6}:∀(l:List Int) (a:Nat × Bool),a.2=true->(l.foldl (fT bs) a).2=true
 | [],_,h=>h
 | k::r,a,h=>E0 r _ (by simp[fT,h])
theorem EX{bs:List f6}(kids:List Int):d9 bs kids [[]]=if (kids.foldl (fT bs) (1,false)).2=true then none else some (oN (kids.map fun k=>(cT bs k).vals).reverse):=by
 have:=B9 (bs:=bs) kids [] (by simp[iK]);simp only[oN,iK,List.append_nil] at this;rw[this,List.map_reverse];rfl
theorem NK{bs:List f6}{kids:List Int}{j:Nat}{k:Int}{a:Nat × Bool}(hk:kids[j]? = some k)(h:(kids.take j).foldl (fT bs) (1,false)=a) :
  (kids.take (j+1)).foldl (fT bs) (1,false)=fT bs a k:=by
 obtain⟨hj,he⟩:=List.getElem?_eq_some_iff.1 hk;rw[List.take_succ_eq_append_getElem hj,List.foldl_append,h,he];rfl
theorem Lz{bs:List f6}{x:Nd}{j:Nat}(h:((x.kids.take j).foldl (fT bs) (1,false)).2=true):nO bs x=⟨[],true⟩:=by
 have e:(x.kids.foldl (fT bs) (1,false)).2=true:=by
  conv=>lhs;rw[←List.take_append_drop j x.kids,List.foldl_append]
  exact E0 _ _ h
 unfold nO;rw[EX,if_pos e]
theorem Kz{bs:List f6}:∀(kids:List Int) (a:Nat × Bool),(kids.foldl (fT bs) a).1=a.1*iK (kids.map fun k=>(cT bs k).vals).reverse:=by
 intro kids;refine dP (P:=fun kids=>∀a:Nat × Bool,(kids.foldl (fT bs) a).1=a.1*iK (kids.map fun k=>(cT bs k).vals).reverse) (fun a=>by simp[iK]) (fun l x ih a=>?_) kids;rw[List.foldl_append,List.map_append,List.reverse_append];simp only[List.foldl_cons,List.foldl_nil,List.map_cons,List.map_nil,List.reverse_singleton,List.singleton_append,iK];rw[fT,ih a,Nat.mul_assoc]
theorem KJ{bs:List f6}(hb:∀b∈bs,kL b.vals){x:Nd}{t:Nat}(h:x.kids.foldl (fT bs) (1,false)=(t,false)) :
  nO bs x=⟨(oN (x.kids.map fun k=>(cT bs k).vals).reverse).map (c9 x.name),false⟩/\t=iK (x.kids.map fun k=>(cT bs k).vals).reverse:=by
 have hr:d9 bs x.kids [[]]=some (oN (x.kids.map fun k=>(cT bs k).vals).reverse):=by
  rw[EX,h];rfl
 refine⟨JD hb hr, ?_⟩;have:=Kz (bs:=bs) x.kids (1,false);rw[h] at this;simpa using this
theorem GB{ls:List (List a7)}{q kk:Nat}{l:List a7}{v:a7}(hl:ls[q]? = some l)(hv:l[kk%l.length]? = some v) :
  rowAt (ls.take (q+1)).reverse kk=rowAt (ls.take q).reverse (kk/l.length)++[v]:=by
 obtain⟨h1,h2⟩:=List.getElem?_eq_some_iff.1 hl;rw[List.take_succ_eq_append_getElem h1,List.reverse_append,h2];simp only[List.reverse_singleton,List.singleton_append,rowAt,hv];rfl
end Go.Ax
namespace Go.Ax
open Go
structure Mt where
 old:Nat
 now:Nat
 opts:List Int
 same:List Bool
def aI(l:List Nd)(i:Nat):Nd:=l.getD i ⟨0,[],0,0,[],[],[],[],.mk 0 0 [] []⟩
def bB(y:Nd)(k:Int):Nat:=(y.kids.getD k.toNat 0).toNat
structure qY(A:List Nd):Prop where
 ok:∀x∈A,qG x
 val:∀x∈A,bC x.value<=1048576
 vals:∀x∈A,∀v∈x.values,bC v<=1048576
 vlen:∀x∈A,x.values.length<=2000
 klen:∀x∈A,x.kids.length<=2000
 llen:∀x∈A,x.labels.length<=1000
 lab:∀x∈A,∀s∈x.labels,s.length<=1000
 len:A.length<=1000
structure NC(A:List Nd)(i:Nat)(x:Nd):Prop where
 opt:P7 x
 node:Dv i x
 srt:kL x.values
 val:∀v∈x.values,gD v
theorem rB:∀{l:List a7},dN l=true->kL l
 | [],_=>by simp[kL]
 | [a],_=>by simp[kL]
 | a::b::r,h=>by
  simp only[dN,Bool.and_eq_true,decide_eq_true_eq] at h;have ih:=rB h.2;unfold kL at ih ⊢;refine List.pairwise_cons.2 ⟨fun x hx=>?_,ih⟩;rcases List.mem_cons.1 hx with rfl|hx
  ·exact h.1
  ·have:=(List.pairwise_cons.1 ih).1 x hx;exact Ee h.1 om
theorem goodT{A:List Nd}(h:qY A)(hv:cC A=0){i:Nat}{x:Nd}(hx:A[i]? = some x):NC A i x:=by
 have hxm:=List.mem_of_getElem? hx;have hv0:bT [] A=0:=by
  unfold cC at hv;split at hv
  ·omega
  ·exact hv
 have hn:=qD A hv0 i x hx;have hN:=jP hn;have hf:=iD hn;have hfp:=mG hf;have hk:=h.klen x hxm;refine⟨⟨h.ok x hxm,cD hN.num,om,fun e=>by have:=hN.klen om;omega,fun e=>?_⟩,hN, ?_,fun v hv=>((h.ok x hxm).valuesI v hv).1⟩
 ·refine⟨hfp.1 e, ?_⟩;unfold cX at hf;simp only[Bool.and_eq_true,Bool.or_eq_true,decide_eq_true_eq] at hf;rcases hf.1.1.1.2 with h2|h2
  ·exact absurd e h2
  ·exact h2.2
 ·unfold cX at hf;simp only[Bool.and_eq_true] at hf;exact rB hf.2
theorem IT{A:List Nd}(ho:∀x∈A,qG x)(hv:cC A=0){i:Nat}{x:Nd}(hx:A[i]? = some x)(h4:x.kind=4):1<=x.values.length:=by
 have hv0:bT [] A=0:=by
  unfold cC at hv;split at hv
  ·omega
  ·exact hv
 have hi:=(List.getElem?_eq_some_iff.1 hx).1;have hpre:bT [] (A.take i)=0:=by
  have:=hv0;rw[←List.take_append_drop i A] at this;exact g5 this
 obtain⟨q,hq,-⟩:=Dk (ns:=A.take i) (fun y hy=>ho y (List.mem_of_mem_take hy)) hpre (x:=x) (.inr h4) (kV A hv0 i x hx);have hb:=(jP (qD A hv0 i x hx)).bind h4;unfold dG at hq;rw[if_neg om] at hq;have:=List.length_pos_of_mem hq;simp at this;omega
theorem OG{A:List Nd}{n:Nat}{y:Nd}(hy:Dv n y){k:Int}(h0:0<=k)(h1:k<y.kids.length):bB y k<n/\∃q:Int,y.kids[k.toNat]? = some q/\q=bB y k:=by
 have hk:k.toNat<y.kids.length:=om;obtain⟨a,b⟩:=hy.kids k.toNat _ (List.getElem?_eq_getElem hk);unfold bB;rw[List.getD_eq_getElem?_getD,List.getElem?_eq_getElem hk];simp only[Option.getD_some];exact⟨om,_,rfl,om⟩
end Go.Ax
namespace Go.Ax
open Go
abbrev Sp:=Nat × Nat × Nat
def vZ:a7:=.mk 0 0 [] []
structure wR where
 val:a7
 used:Nat
 stop:Int
 spans:List Sp
structure Pt where
 used:Nat
 vals:List a7
 spans:List Sp
 stop:Int
def fY(x:Nd):Int:=if x.kind=1 then x.hi-x.lo+1 else x.kids.length
def bH(rd:Nat->Nat->wR)(a0:Nat):List Int->Pt->Pt
 | [],s=>s
 | k::ks,s=>
  if (rd k.toNat (a0+s.used)).stop = -1 then
   bH rd a0 ks ⟨s.used+(rd k.toNat (a0+s.used)).used,s.vals++[(rd k.toNat (a0+s.used)).val],s.spans++(a0,a0+s.used,a0+s.used+(rd k.toNat (a0+s.used)).used)::(rd k.toNat (a0+s.used)).spans,-1⟩
  else⟨s.used+(rd k.toNat (a0+s.used)).used,s.vals++[(rd k.toNat (a0+s.used)).val],s.spans++(a0,a0+s.used,a0+s.used+(rd k.toNat (a0+s.used)).used)::(rd k.toNat (a0+s.used)).spans,(rd k.toNat (a0+s.used)).stop⟩
def Bo(x:Nd)(s:Pt):wR:=⟨if s.stop = -1 then c9 x.name s.vals else vZ,s.used,s.stop,s.spans⟩
def aZ(A:List Nd)(p:List Int):Nat->Nat->Nat->wR
 | 0,_,_=>⟨vZ,0,-2,[]⟩
 | f+1,i,a0=>
  if (aI A i).kind=0 then⟨(aI A i).value,0,-1,[]⟩
  else if (aI A i).kind=3 then Bo (aI A i) (bH (fun k q=>aZ A p f k q) a0 (aI A i).kids ⟨0,[],[],-1⟩)
  else if (aI A i).kind=4 then
   if (aZ A p f (bB (aI A i) 0) a0).stop = -1 then
    ⟨(aZ A p f (bB (aI A i) ((dL (aI A i).values (aZ A p f (bB (aI A i) 0) a0).val).1+1:Nat)) (a0+(aZ A p f (bB (aI A i) 0) a0).used)).val,
     (aZ A p f (bB (aI A i) 0) a0).used+(aZ A p f (bB (aI A i) ((dL (aI A i).values (aZ A p f (bB (aI A i) 0) a0).val).1+1:Nat)) (a0+(aZ A p f (bB (aI A i) 0) a0).used)).used,
     (aZ A p f (bB (aI A i) ((dL (aI A i).values (aZ A p f (bB (aI A i) 0) a0).val).1+1:Nat)) (a0+(aZ A p f (bB (aI A i) 0) a0).used)).stop,
     (aZ A p f (bB (aI A i) 0) a0).spans++(aZ A p f (bB (aI A i) ((dL (aI A i).values (aZ A p f (bB (aI A i) 0) a0).val).1+1:Nat)) (a0+(aZ A p f (bB (aI A i) 0) a0).used)).spans⟩
   else aZ A p f (bB (aI A i) 0) a0
  else if p.length<=a0 then⟨vZ,0,i,[]⟩
  else if p.getD a0 0<0∨fY (aI A i)<=p.getD a0 0 then⟨vZ,0,-2,[]⟩
  else if (aI A i).kind=1 then⟨.mk 0 ((aI A i).lo+p.getD a0 0) [] [],1,-1,[]⟩
  else⟨(aZ A p f (bB (aI A i) (p.getD a0 0)) (a0+1)).val,(aZ A p f (bB (aI A i) (p.getD a0 0)) (a0+1)).used+1,(aZ A p f (bB (aI A i) (p.getD a0 0)) (a0+1)).stop,(aZ A p f (bB (aI A i) (p.getD a0 0)) (a0+1)).spans⟩
structure VT(A:List Nd):Prop where
 tin:qY A
 val:cC A=0
 pos:0<A.length
section
variable {A:List Nd}
theorem VT.v0(h:VT A):bT [] A=0:=by
 have hv:=h.val;unfold cC at hv;split at hv
 ·omega
 ·exact hv
theorem VT.set(h:VT A):gC A A.length:=⟨Nat.le_refl _,by have:=h.tin.len;omega,h.tin.ok,by rw[List.take_length];exact h.v0⟩
theorem VT.node(h:VT A){i:Nat}{x:Nd}(hx:A[i]? = some x):NC A i x:=goodT h.tin h.val hx
theorem dD{i:Nat}(hi:i<A.length):A[i]? = some (aI A i):=by
 unfold aI;rw[List.getD_eq_getElem?_getD,List.getElem?_eq_getElem hi];rfl
theorem VT.kid(h:VT A){i:Nat}{x:Nd}(hx:A[i]? = some x){j:Nat}(hj:j<x.kids.length):bB x j<i/\x.kids[j]? = some (bB x j:Int):=by
 have hi:=(List.getElem?_eq_some_iff.1 hx).1;obtain⟨h1,q,h2,h3⟩:=OG (A:=A) (h.node hx).node (k:=(j:Int)) om om;refine⟨h1, ?_⟩;rw[Int.toNat_natCast] at h2;rw[h2,h3]
theorem VT.lst(h:VT A){i:Nat}{x:Nd}(hx:A[i]? = some x):cT (aL A) i=cR x (aL A):=h.set.at (List.getElem?_eq_some_iff.1 hx).1 hx
theorem CL:∀{l m:List a7},dC l m=true->l=m
 | [],[],_=>rfl
 | a::l,b::m,h=>by
  simp only[dC,Bool.and_eq_true,decide_eq_true_eq] at h;rw[ED a b h.1,CL h.2]
 | [],b::m,h=>by simp[dC] at h
 | a::l,[],h=>by simp[dC] at h
theorem VT.bind(h:VT A){i:Nat}{x:Nd}(hx:A[i]? = some x)(h4:x.kind=4):x.kids.length=x.values.length+1/\1<=x.values.length/\(cT (aL A) (bB x 0)).many=false/\(cT (aL A) (bB x 0)).vals=x.values:=by
 have hi:=(List.getElem?_eq_some_iff.1 hx).1;have hb:=(h.node hx).node.bind h4;have h1:=IT h.tin.ok h.val hx h4;refine⟨hb,h1, ?_⟩;obtain⟨k1,k2⟩:bB x 0<i/\x.kids[0]? = some (bB x 0:Int):=h.kid hx (j:=0) om;have hs:=(e6 (kV A h.v0 i x hx)).2.2.2 h4;have e0:x.kids.getD 0 0=(bB x 0:Int):=by rw[List.getD_eq_getElem?_getD,k2];rfl
 unfold eF at hs;rw[e0,Int.toNat_natCast,List.take_take,Nat.min_eq_left om,iS om om om] at hs;simp only at hs;split at hs
 ·omega
 ·rename_i hm;split at hs
  ·rename_i hsv;exact⟨by simpa using hm,CL hsv⟩
  ·omega
end
def Hv(bs:List f6):List Int->List a7->Prop
 | [],[]=>True
 | k::ks,v::vs=>((cT bs k).many=false->v∈(cT bs k).vals)/\Hv bs ks vs
 | _,_=>False
theorem Bv{bs:List f6}:∀(ks:List Int) (vs:List a7) (rows out:List (List a7)) (r:List a7),d9 bs ks rows=some out->r∈rows->Hv bs ks vs->r++vs∈out
 | [],[],rows,out,r,h,hr,_=>by simp only[d9] at h;cases h;simpa using hr
 | [],v::vs,rows,out,r,h,hr,ha=>ha.elim
 | k::ks,[],rows,out,r,h,hr,ha=>ha.elim
 | k::ks,v::vs,rows,out,r,h,hr,ha=>by
  simp only[d9] at h;split at h
  ·cases h
  ·rename_i hm;rw[not_or] at hm;have hv:=ha.1 (by simpa using hm.1);have:=Bv ks vs _ out (r++[v]) h (by
    unfold fM;exact List.mem_flatMap.2 ⟨r,hr,List.mem_map.2 ⟨v,hv,rfl⟩⟩) ha.2
   simpa using this
theorem D6{bs:List f6}:∀(ks:List Int) (a:List a7 × Bool),(ks.foldl (bJ bs) a).2=false->(∀v∈a.1,v∈(ks.foldl (bJ bs) a).1)/\∀k∈ks,(cT bs k).many=false/\∀v∈(cT bs k).vals,v∈(ks.foldl (bJ bs) a).1
 | [],a,h=>⟨fun v hv=>hv,fun k hk=>by simp at hk⟩
 | k::ks,a,h=>by
  rw[List.foldl_cons] at h ⊢;obtain⟨h1,h2⟩:=D6 ks _ h;have hs:(bJ bs a k).2=false:=by
   cases e:(bJ bs a k).2 with
   | false=>rfl
   | true=>rw[wY _ _ e] at h;cases h
  simp only[bJ,Bool.or_eq_false_iff] at hs;refine⟨fun v hv=>h1 v (by simp only[bJ];rw[mM];exact List.mem_append_left _ hv),fun q hq=>?_⟩;rcases List.mem_cons.1 hq with rfl|hq
  ·exact⟨hs.1.2,fun v hv=>h1 v (by simp only[bJ];rw[mM];exact List.mem_append_right _ hv)⟩
  ·exact h2 q hq
theorem FN{bs:List f6}{ks:List Int}{k:Int}{v:a7}(hk:k∈ks)(hm:(kI bs ks).many=false)(hv:(cT bs k).many=false->v∈(cT bs k).vals):v∈(kI bs ks).vals:=by
 unfold kI at hm ⊢;split at hm
 ·simp at hm
 ·rename_i h2;have h2:(ks.foldl (bJ bs) ([],false)).2=false:=by simpa using h2
  rw[if_neg (by rw[h2];simp)];obtain⟨h3,h4⟩:=(D6 ks _ h2).2 k hk;exact h4 v (hv h3)
theorem AL{n:List UInt8}{vs:List a7}(hn:n.length<=4294967296)(hl:vs.length<=4294967296)(h:∀v∈vs,gD v):gD (c9 n vs):=by
 have z:∀k:Int,0<=k->k<=3->i64 k:=fun k h1 h2=>⟨om,om⟩
 unfold c9;split
 ·exact jR (z 2 om om) (z 0 om om) (by simp) hl (pA h)
 ·exact jR (z 3 om om) (z 0 om om) hn hl (pA h)
theorem D7{rd:Nat->Nat->wR}{a0:Nat}{bs:List f6}:∀(ks:List Int) (s:Pt),(∀k∈ks,∀q,(rd k.toNat q).stop = -1->gD (rd k.toNat q).val/\((cT bs k).many=false->(rd k.toNat q).val∈(cT bs k).vals))->(∀v∈s.vals,gD v)->(bH rd a0 ks s).stop = -1 ->
  ∃vs,(bH rd a0 ks s).vals=s.vals++vs/\Hv bs ks vs/\∀v∈vs,gD v
 | [],s,_,_,_=>⟨[],by simp[bH],trivial,by simp⟩
 | k::ks,s,hr,hs,h=>by
  simp only[bH] at h ⊢;split at h
  ·rename_i hst;rw[if_pos hst];obtain⟨o1,o2⟩:=hr k (List.mem_cons_self ..) _ hst;obtain⟨vs,h1,h2,h3⟩:=D7 ks _ (fun q hq=>hr q (List.mem_cons_of_mem _ hq)) (fun v hv=>by
    rcases List.mem_append.1 hv with hv|hv
    ·exact hs v hv
    ·simp at hv;rw[hv];exact o1) h
   refine⟨(rd k.toNat (a0+s.used)).val::vs,by rw[h1];simp,⟨o2,h2⟩,fun v hv=>?_⟩
   ·rcases List.mem_cons.1 hv with rfl|hv
    ·exact o1
    ·exact h3 v hv
  ·rename_i hst;exact absurd h hst
end Go.Ax
namespace Go.Ax
open Go
theorem eZ{A:List Nd}(h:VT A){i:Nat}{x:Nd}(hx:A[i]? = some x){k:Int}(hk:k∈x.kids):0<=k/\k.toNat<i:=by
 obtain⟨j,hj⟩:=List.getElem?_of_mem hk;have:=(h.node hx).node.kids j k hj;omega
theorem VT.kidI{A:List Nd}(h:VT A){i:Nat}{x:Nd}(hx:A[i]? = some x){c:Int}(h0:0<=c)(h1:c<x.kids.length):bB x c<i/\(bB x c:Int)∈x.kids/\x.kids[c.toNat]? = some (bB x c:Int):=by
 obtain⟨j,rfl⟩:=Int.eq_ofNat_of_zero_le h0;obtain⟨k1,k2⟩:=h.kid hx (j:=j) om;exact⟨k1,List.mem_of_getElem? k2,by rw[Int.toNat_natCast];exact k2⟩
theorem lF{A:List Nd}(h:VT A)(p:List Int):∀f i a0,i<f->i<A.length->(aZ A p f i a0).stop = -1->gD (aZ A p f i a0).val/\((cT (aL A) i).many=false->(aZ A p f i a0).val∈(cT (aL A) i).vals)
 | 0,i,a0,hf,hi,hs=>om
 | f+1,i,a0,hf,hi,hs=>by
  have hx:=dD hi;have hg:=h.node hx;have hN:=hg.node;have hok:=h.tin.ok _ (List.mem_of_getElem? hx);have hkm:=fun(k:Int) (hk:k∈(aI A i).kids)=>eZ h hx hk
  have hkI:=fun(c:Int) (h0:0<=c) (h1:c<(aI A i).kids.length)=>h.kidI hx h0 h1
  have hbi:=fun h4=>h.bind hx h4
  rw[h.lst hx];simp only[aZ] at hs ⊢;have ih:=fun(k:Nat) (a:Nat) (hk:k<i)=>lF h p f k a om om
  generalize aI A i=x at *;by_cases k0:x.kind=0
  ·rw[if_pos k0];refine⟨hok.value,fun _=>?_⟩;unfold cR;rw[if_pos k0];simp
  rw[if_neg k0] at hs ⊢;by_cases k3:x.kind=3
  ·rw[if_pos k3] at hs ⊢;simp only[Bo] at hs ⊢;rw[if_pos hs];obtain⟨vs,h1,h2,h3⟩:=D7 (bs:=aL A) x.kids ⟨0,[],[],-1⟩ (fun k hk q hst=>by
    have:=hkm k hk;have hi2:=ih k.toNat q this.2 hst
    rwa [show ((k.toNat:Nat):Int)=k by omega] at hi2) (by simp) hs
   rw[h1];simp only[List.nil_append];have hlen:vs.length=x.kids.length:=by
    have:∀(ks:List Int) (vs:List a7),Hv (aL A) ks vs->vs.length=ks.length:=by
     intro ks
     induction ks with
     | nil=>intro vs h;cases vs with
      | nil=>rfl
      | cons v vs=>exact h.elim
     | cons k ks ih=>intro vs h;cases vs with
      | nil=>exact h.elim
      | cons v vs=>simp[ih vs h.2]
    exact this _ _ h2
   refine⟨AL (by have:=hok.name;omega) (by have:=hok.kids;omega) h3,fun hm=>?_⟩;unfold cR at hm ⊢;rw[if_neg k0,if_neg om,if_pos k3] at hm ⊢;unfold nO at hm ⊢;split at hm
   ·simp at hm
   ·rename_i rows hr;simp only;rw[mM];exact List.mem_map.2 ⟨vs,by simpa using Bv x.kids vs [[]] rows [] hr (by simp) h2,rfl⟩
  rw[if_neg k3] at hs ⊢;by_cases k4:x.kind=4
  ·rw[if_pos k4] at hs ⊢;obtain⟨b1,b2,b3,b4⟩:=hbi k4;split at hs
   ·rename_i hst;rw[if_pos hst];simp only at hs ⊢;obtain⟨c1,-,-⟩:=hkI 0 om om;obtain⟨-,m1⟩:=ih _ a0 c1 hst;have m1:=m1 b3;rw[b4] at m1;obtain⟨q,fq,q1,q2⟩:=jC hg.srt m1;rw[fq] at hs ⊢;simp only at hs ⊢;obtain⟨d1,d2,d3⟩:=hkI ((q+1:Nat):Int) om om;obtain⟨e1,e2⟩:=ih _ _ d1 hs;refine⟨e1,fun hm=>?_⟩;unfold cR at hm ⊢;rw[if_neg k0,if_neg om,if_neg k3,if_pos k4] at hm ⊢;refine FN (k:=(bB x ((q+1:Nat):Int):Int)) ?_ hm e2;rw[Int.toNat_natCast] at d3;refine List.mem_of_getElem? (i:=q) ?_;rw[List.getElem?_drop,Nat.add_comm];exact d3
   ·rename_i hst;exact absurd hs hst
  rw[if_neg k4] at hs ⊢;split at hs
  ·simp at hs
  rename_i hp;rw[if_neg hp];split at hs
  ·simp at hs
  rename_i hc;rw[if_neg hc];rw[not_or] at hc;by_cases k1:x.kind=1
  ·rw[if_pos k1] at hs ⊢;simp only;have ho:fY x=x.hi-x.lo+1:=by unfold fY;rw[if_pos k1]
   have hr:=cD hN.num;generalize p.getD a0 0=c at *;refine⟨gH ⟨om,om⟩ ⟨om,om⟩,fun hm=>?_⟩;unfold cR at hm ⊢;rw[if_neg k0,if_pos k1] at hm ⊢;split at hm
   ·simp at hm
   ·rename_i hr;rw[if_neg hr];simp only[fZ];exact List.mem_map.2 ⟨c.toNat,List.mem_range.2 om,by rw[Int.toNat_of_nonneg om]⟩
  ·rw[if_neg k1] at hs ⊢;simp only at hs ⊢;have ho:fY x=x.kids.length:=by unfold fY;rw[if_neg k1]
   have hk2:=hN.kind;obtain⟨d1,d2,d3⟩:=hkI (p.getD a0 0) om om;obtain⟨e1,e2⟩:=ih _ _ d1 hs;refine⟨e1,fun hm=>?_⟩;unfold cR at hm ⊢;rw[if_neg k0,if_neg k1,if_neg k3,if_neg om] at hm ⊢;exact FN d2 hm e2
def JJ(a b:Nat)(l:List Sp):Prop:=∀s∈l,a<=s.1/\s.1<=s.2.1/\s.2.1<=s.2.2/\s.2.2<=b
theorem JJ.mono{a b a' b':Nat}{l:List Sp}(h:JJ a b l)(h1:a'<=a)(h2:b<=b'):JJ a' b' l:=fun s hs=>by
 have:=h s hs;omega
theorem JJ.app{a b:Nat}{l m:List Sp}(h:JJ a b l)(h':JJ a b m):JJ a b (l++m):=fun s hs=>by
 rcases List.mem_append.1 hs with hs|hs
 ·exact h s hs
 ·exact h' s hs
theorem Fo{rd:Nat->Nat->wR}{a0 n:Nat}(hr:∀(k q:Nat),q<=n->q+(rd k q).used<=n/\JJ q (q+(rd k q).used) (rd k q).spans):∀(ks:List Int) (s:Pt),a0+s.used<=n->JJ a0 (a0+s.used) s.spans->a0+(bH rd a0 ks s).used<=n/\JJ a0 (a0+(bH rd a0 ks s).used) (bH rd a0 ks s).spans
 | [],s,h1,h2=>⟨h1,h2⟩
 | k::ks,s,h1,h2=>by
  simp only[bH];obtain⟨g1,g2⟩:=hr k.toNat (a0+s.used) h1;have g3:JJ a0 (a0+(s.used+(rd k.toNat (a0+s.used)).used)) (s.spans++(a0,a0+s.used,a0+s.used+(rd k.toNat (a0+s.used)).used)::(rd k.toNat (a0+s.used)).spans):=by
   refine(h2.mono (Nat.le_refl _) om).app fun t ht=>?_
   rcases List.mem_cons.1 ht with rfl|ht
   ·simp only;omega
   ·have:=g2 t ht;omega
  split
  ·exact Fo hr ks _ (by simp only;omega) g3
  ·exact⟨by simp only;omega,g3⟩
theorem v8{A:List Nd}(p:List Int):∀f i a0,a0<=p.length->a0+(aZ A p f i a0).used<=p.length/\JJ a0 (a0+(aZ A p f i a0).used) (aZ A p f i a0).spans
 | 0,i,a0,ha=>⟨ha,fun s hs=>by simp[aZ] at hs⟩
 | f+1,i,a0,ha=>by
  have ih:=v8 (A:=A) p f;simp only[aZ];split
  ·exact⟨ha,fun s hs=>by simp at hs⟩
  split
  ·exact Fo (fun k q hq=>ih k q hq) _ _ ha fun s hs=>by simp at hs
  split
  ·split
   ·obtain⟨g1,g2⟩:=ih (bB (aI A i) 0) a0 ha;obtain⟨g3,g4⟩:=ih (bB (aI A i) ((dL (aI A i).values (aZ A p f (bB (aI A i) 0) a0).val).1+1:Nat)) _ g1;refine⟨by simp only;omega, ?_⟩;exact(g2.mono (Nat.le_refl _) (by simp only;omega)).app (g4.mono om (by simp only;omega))
   ·exact ih _ a0 ha
  split
  ·exact⟨ha,fun s hs=>by simp at hs⟩
  rename_i hp;split
  ·exact⟨ha,fun s hs=>by simp at hs⟩
  split
  ·exact⟨by simp only;omega,fun s hs=>by simp at hs⟩
  ·obtain⟨g1,g2⟩:=ih (bB (aI A i) (p.getD a0 0)) (a0+1) om;exact⟨by simp only;omega,g2.mono om (by simp only;omega)⟩
end Go.Ax
namespace Go.Ax
open Go
theorem JE(r:List Nd):∀l:List Nd,∃m,aY (l++r)=aY l++m:=by
 refine dP (P:=fun r=>∀l:List Nd,∃m,aY (l++r)=aY l++m) (fun l=>⟨[],by simp⟩) (fun r x ih l=>?_) r;obtain⟨m,hm⟩:=ih l;refine⟨m++[eC (aY (l++r)) x], ?_⟩;rw[←List.append_assoc,fR,hm,List.append_assoc]
theorem x5{A:List Nd}{n:Nat}{k:Int}(h0:0<=k)(h:k<n)(hn:n<=A.length):dK (aY (A.take n)) k=dK (aY A) k:=by
 obtain⟨m,hm⟩:=JE (A.drop n) (A.take n);rw[List.take_append_drop] at hm;rw[hm,HG h0 (by rw[d8,List.length_take];omega)]
def uL(ls:List Int)(fs:List a7)(x:Nd):a7:=
 if 0<eC ls x then vZ else if x.kind=0 then x.value else if x.kind=3 then c9 x.name (x.kids.map fun k=>fs.getD k.toNat vZ) else if x.kind=4 then fs.getD (bB x 1) vZ else vZ
def Ig(nodes:List Nd):List Int × List a7:=nodes.foldl (fun s x=>(s.1++[eC s.1 x],s.2++[uL s.1 s.2 x])) ([],[])
def cO(nodes:List Nd):List a7:=(Ig nodes).2
theorem Kv(l:List Nd):(Ig l).1=aY l:=by
 refine dP (P:=fun l=>(Ig l).1=aY l) rfl (fun l x ih=>?_) l;rw[fR,←ih];unfold Ig;rw[List.foldl_append];rfl
theorem s8(l:List Nd)(x:Nd):cO (l++[x])=cO l++[uL (aY l) (cO l) x]:=by
 rw[←Kv];unfold cO Ig;rw[List.foldl_append];rfl
theorem g7(l:List Nd):(cO l).length=l.length:=by
 refine dP (P:=fun l=>(cO l).length=l.length) rfl (fun l x ih=>?_) l;rw[s8];simp[ih]
theorem K1(r:List Nd):∀l:List Nd,∃m,cO (l++r)=cO l++m:=by
 refine dP (P:=fun r=>∀l:List Nd,∃m,cO (l++r)=cO l++m) (fun l=>⟨[],by simp⟩) (fun r x ih l=>?_) r;obtain⟨m,hm⟩:=ih l;refine⟨m++[uL (aY (l++r)) (cO (l++r)) x], ?_⟩;rw[←List.append_assoc,s8,hm,List.append_assoc]
def FA(l:List a7)(k:Nat):a7:=l.getD k vZ
theorem Li{l m:List a7}{k:Nat}(h:k<l.length):FA (l++m) k=FA l k:=by
 unfold FA;rw[List.getD_eq_getElem?_getD,List.getD_eq_getElem?_getD,List.getElem?_append_left h]
theorem Aa{A:List Nd}{n k:Nat}(h:k<n)(hn:n<=A.length):FA (cO (A.take n)) k=FA (cO A) k:=by
 obtain⟨m,hm⟩:=K1 (A.drop n) (A.take n);rw[List.take_append_drop] at hm;rw[hm,Li (by rw[g7,List.length_take];omega)]
def w7(ls:List Int)(ps:List Bool)(x:Nd):Bool:=decide (eC ls x<=0) && (decide (x.kind≠3) || decide (x.kids.length=0)) && x.kids.all fun k=>ps.getD k.toNat false
def Ia(nodes:List Nd):List Int × List Bool:=nodes.foldl (fun s x=>(s.1++[eC s.1 x],s.2++[w7 s.1 s.2 x])) ([],[])
def cN(nodes:List Nd):List Bool:=(Ia nodes).2
theorem KM(l:List Nd):(Ia l).1=aY l:=by
 refine dP (P:=fun l=>(Ia l).1=aY l) rfl (fun l x ih=>?_) l;rw[fR,←ih];unfold Ia;rw[List.foldl_append];rfl
theorem tJ(l:List Nd)(x:Nd):cN (l++[x])=cN l++[w7 (aY l) (cN l) x]:=by
 rw[←KM];unfold cN Ia;rw[List.foldl_append];rfl
theorem gT(l:List Nd):(cN l).length=l.length:=by
 refine dP (P:=fun l=>(cN l).length=l.length) rfl (fun l x ih=>?_) l;rw[tJ];simp[ih]
theorem JL(r:List Nd):∀l:List Nd,∃m,cN (l++r)=cN l++m:=by
 refine dP (P:=fun r=>∀l:List Nd,∃m,cN (l++r)=cN l++m) (fun l=>⟨[],by simp⟩) (fun r x ih l=>?_) r;obtain⟨m,hm⟩:=ih l;refine⟨m++[w7 (aY (l++r)) (cN (l++r)) x], ?_⟩;rw[←List.append_assoc,tJ,hm,List.append_assoc]
def JH(l:List Bool)(k:Nat):Bool:=l.getD k false
theorem ME{l m:List Bool}{k:Nat}(h:k<l.length):JH (l++m) k=JH l k:=by
 unfold JH;rw[List.getD_eq_getElem?_getD,List.getD_eq_getElem?_getD,List.getElem?_append_left h]
theorem Ej{A:List Nd}{n k:Nat}(h:k<n)(hn:n<=A.length):JH (cN (A.take n)) k=JH (cN A) k:=by
 obtain⟨m,hm⟩:=JL (A.drop n) (A.take n);rw[List.take_append_drop] at hm;rw[hm,ME (by rw[gT,List.length_take];omega)]
section
variable {A:List Nd}
theorem VT.lenC(h:VT A){i:Nat}{x:Nd}(hx:A[i]? = some x){n:Nat}(hi:i<=n)(hn:n<=A.length):eC (aY (A.take n)) x=eC (aY A) x:=by
 refine u7 (fun k hk=>?_) (fun h4=>by have:=(h.bind hx h4).1;omega) (h.node hx).node.kind;have:=eZ h hx hk;exact x5 this.1 om hn
theorem VT.len(h:VT A){i:Nat}{x:Nd}(hx:A[i]? = some x):dK (aY A) i=eC (aY A) x:=by
 obtain⟨hi,he⟩:=List.getElem?_eq_some_iff.1 hx;rw[←x5 (n:=i+1) om om om,List.take_succ_eq_append_getElem hi,fR,he,h.lenC hx (Nat.le_refl _) om];unfold dK;rw[Int.toNat_natCast,List.getD_eq_getElem?_getD,List.getElem?_append_right (by rw[d8];simp;omega),d8];simp[show min i A.length=i by omega]
theorem VT.lens0(h:VT A)(k:Int):0<=dK (aY A) k/\dK (aY A) k<=1024:=by
 unfold dK;rw[List.getD_eq_getElem?_getD];cases e:(aY A)[k.toNat]? with
 | none=>simp
 | some b=>exact(gE A h.v0).1 b (List.mem_of_getElem? e)
theorem VT.fixC(h:VT A){i:Nat}{x:Nd}(hx:A[i]? = some x){n:Nat}(hi:i<=n)(hn:n<=A.length):uL (aY (A.take n)) (cO (A.take n)) x=uL (aY A) (cO A) x:=by
 unfold uL;rw[h.lenC hx hi hn];split
 ·rfl
 split
 ·rfl
 split
 ·congr 1;refine List.map_congr_left fun k hk=>?_
  have:=eZ h hx hk;exact Aa om hn
 split
 ·rename_i h4;obtain⟨b1,b2,-⟩:=h.bind hx h4;have:bB x ((1:Nat):Int)<i:=(h.kid hx (j:=1) om).1;exact Aa (show bB x 1<n by have:bB x 1<i:=this;omega) hn
 ·rfl
theorem VT.fix(h:VT A){i:Nat}{x:Nd}(hx:A[i]? = some x):FA (cO A) i=uL (aY A) (cO A) x:=by
 obtain⟨hi,he⟩:=List.getElem?_eq_some_iff.1 hx;rw[←Aa (n:=i+1) om om,List.take_succ_eq_append_getElem hi,s8,he,h.fixC hx (Nat.le_refl _) om];unfold FA;rw[List.getD_eq_getElem?_getD,List.getElem?_append_right (by rw[g7];simp;omega),g7];simp[show min i A.length=i by omega]
theorem VT.plnC(h:VT A){i:Nat}{x:Nd}(hx:A[i]? = some x){n:Nat}(hi:i<=n)(hn:n<=A.length):w7 (aY (A.take n)) (cN (A.take n)) x=w7 (aY A) (cN A) x:=by
 unfold w7;rw[h.lenC hx hi hn];congr 1;rw[Bool.eq_iff_iff,List.all_eq_true,List.all_eq_true];have e:∀k∈x.kids,(cN (A.take n)).getD k.toNat false=(cN A).getD k.toNat false:=fun k hk=>by
  have:=eZ h hx hk;exact Ej om hn
 exact⟨fun g k hk=>by rw[←e k hk];exact g k hk,fun g k hk=>by rw[e k hk];exact g k hk⟩
theorem VT.pln(h:VT A){i:Nat}{x:Nd}(hx:A[i]? = some x):JH (cN A) i=w7 (aY A) (cN A) x:=by
 obtain⟨hi,he⟩:=List.getElem?_eq_some_iff.1 hx;rw[←Ej (n:=i+1) om om,List.take_succ_eq_append_getElem hi,tJ,he,h.plnC hx (Nat.le_refl _) om];unfold JH;rw[List.getD_eq_getElem?_getD,List.getElem?_append_right (by rw[gT];simp;omega),gT];simp[show min i A.length=i by omega]
theorem ID{b:List Int}(hb:∀k,0<=dK b k):∀(l:List Int),eH b l=0->∀k∈l,dK b k=0:=by
 have key:∀(l:List Int) (s:Int),0<=s->l.foldl (fun s k=>s+dK b k) s=0->s=0/\∀k∈l,dK b k=0:=by
  intro l
  induction l with
  | nil=>intro s h0 h;exact⟨h,by simp⟩
  | cons k l ih=>
   intro s h0 h;rw[List.foldl_cons] at h;have hk:=hb k;obtain⟨h1,h2⟩:=ih _ om h;refine⟨om,fun q hq=>?_⟩;rcases List.mem_cons.1 hq with rfl|hq
   ·omega
   ·exact h2 q hq
 exact fun l h=>(key l 0 (Int.le_refl _) h).2
theorem VT.len0(h:VT A){i:Nat}{x:Nd}(hx:A[i]? = some x)(h0:dK (aY A) i=0):x.kind≠1/\x.kind≠2/\(x.kind=3->∀k∈x.kids,dK (aY A) k=0) /\
  (x.kind=4->dK (aY A) (bB x 0)=0/\∀k∈x.kids.drop 1,dK (aY A) k=0):=by
 rw[h.len hx] at h0;have hb:=fun k=>(h.lens0 k).1
 unfold eC at h0;refine⟨fun e=>?_,fun e=>?_,fun e=>?_,fun e=>?_⟩
 ·rw[if_neg om,if_pos e] at h0;omega
 ·rw[if_neg om,if_neg om,if_neg om,if_pos e] at h0;have:=(fK (b:=aY A) (M:=1024) om (gE A h.v0).1 (dG x)).1;omega
 ·rw[if_neg om,if_neg om,if_pos e] at h0;exact ID hb _ h0
 ·rw[if_neg om,if_neg om,if_neg om,if_neg om] at h0;have hm:=(fK (b:=aY A) (M:=1024) om (gE A h.v0).1 (dG x)).1;have hk:(x.kids.getD 0 0)=(bB x 0:Int):=by
   have:=(h.bind hx e).1;have h2:x.kids[0]? = some (bB x 0:Int):=(h.kid hx (j:=0) om).2;rw[List.getD_eq_getElem?_getD,h2];rfl
  rw[hk] at h0;have:=hb (bB x 0);refine⟨om,fun k hk=>?_⟩;have ha:k∈dG x:=by unfold dG;rw[if_neg om];exact hk
  have h1:=(mO (ss:=aY A) (dG x) 0 k ha).1;have h1:dK (aY A) k<=cG (aY A) (dG x):=h1;have:=hb k;omega
theorem CH(v:a7):dV [v]=[v]:=by simp[dV,rQ,dL]
theorem EV{bs:List f6}{g:Int->a7}:∀(ks:List Int) (r:List a7),(∀k∈ks,cT bs k=⟨[g k],false⟩)->d9 bs ks [r]=some [r++ks.map g]
 | [],r,_=>by simp[d9]
 | k::ks,r,h=>by
  simp only[d9];rw[h k (List.mem_cons_self ..)];rw[if_neg (by simp)];simp only[fM,List.flatMap_cons,List.flatMap_nil,List.map_cons,List.map_nil,List.append_nil];rw[EV ks (r++[g k]) fun q hq=>h q (List.mem_cons_of_mem _ hq)];simp
theorem Jc(h:VT A):∀i,i<A.length->dK (aY A) i=0->cT (aL A) i=⟨[FA (cO A) i],false⟩:=by
 intro i
 induction i using Nat.strongRecOn with
 | ind i ih=>
  intro hi h0;have hx:=dD hi;have hkm:=fun(k:Int) (hk:k∈(aI A i).kids)=>eZ h hx hk
  obtain⟨l1,l2,l3,l4⟩:=h.len0 hx h0;have hbi:=fun h4=>h.bind hx h4
  have hkd:=fun(j:Nat) (hj:j<(aI A i).kids.length)=>h.kid hx hj
  have hkind:=(h.node hx).node.kind;rw[h.lst hx,h.fix hx];rw[h.len hx] at h0;generalize aI A i=x at *;have ihk:∀k:Int,k∈x.kids->dK (aY A) k=0->cT (aL A) k=⟨[(cO A).getD k.toNat vZ],false⟩:=fun k hk hz=>by
   have:=hkm k hk;have e:=ih k.toNat this.2 om (by rw[show ((k.toNat:Nat):Int)=k by omega];exact hz)
   rwa [show ((k.toNat:Nat):Int)=k by omega] at e
  unfold cR uL;rw[if_neg (show ¬0<eC (aY A) x by omega)];by_cases k0:x.kind=0
  ·rw[if_pos k0,if_pos k0]
  rw[if_neg k0,if_neg k0,if_neg l1];by_cases k3:x.kind=3
  ·rw[if_pos k3,if_pos k3];unfold nO;rw[EV x.kids [] fun k hk=>ihk k hk (l3 k3 k hk)];simp[CH]
  rw[if_neg k3,if_neg k3];have k4:x.kind=4:=om;rw[if_pos k4,if_pos k4];obtain⟨b1,b2,b3,b4⟩:=hbi k4;obtain⟨m1,m2⟩:=l4 k4;have e0:=hkd 0 om;have e0':x.kids[0]? = some (bB x 0:Int):=e0.2;have e1:=hkd 1 om;have e1':x.kids[1]? = some (bB x 1:Int):=e1.2;have hz:=ihk (bB x 0:Int) (List.mem_of_getElem? e0') m1;rw[hz] at b4;have hvl:x.values.length=1:=by rw[←b4];rfl
  have hk1:x.kids.drop 1=[(bB x 1:Int)]:=by
   apply List.ext_getElem?;intro j;rw[List.getElem?_drop];rcases j with _|j
   ·rw[Nat.add_zero,e1'];rfl
   ·rw[List.getElem?_eq_none om,List.getElem?_eq_none (by simp)]
  rw[hk1];have hz1:=ihk (bB x 1:Int) (List.mem_of_getElem? e1') (m2 _ (by rw[hk1];simp));unfold kI;simp only[List.foldl_cons,List.foldl_nil,bJ,hz1,List.nil_append,CH];simp
end
end Go.Ax
namespace Go.Ax
open Go
theorem Ck{rd:Nat->Nat->wR}{a0:Nat}{g:Int->a7}:∀(ks:List Int) (s:Pt),s.stop = -1->(∀k∈ks,∀q,(rd k.toNat q).val=g k/\(rd k.toNat q).used=0/\(rd k.toNat q).stop = -1) ->
  (bH rd a0 ks s).used=s.used/\(bH rd a0 ks s).vals=s.vals++ks.map g/\(bH rd a0 ks s).stop = -1
 | [],s,hs,_=>⟨rfl,by simp[bH],hs⟩
 | k::ks,s,hs,h=>by
  obtain⟨h1,h2,h3⟩:=h k (List.mem_cons_self ..) (a0+s.used);simp only[bH];rw[if_pos h3];obtain⟨g1,g2,g3⟩:=Ck (rd:=rd) (a0:=a0) (g:=g) ks ⟨s.used+(rd k.toNat (a0+s.used)).used,s.vals++[(rd k.toNat (a0+s.used)).val],s.spans++(a0,a0+s.used,a0+s.used+(rd k.toNat (a0+s.used)).used)::(rd k.toNat (a0+s.used)).spans,-1⟩ rfl fun q hq=>h q (List.mem_cons_of_mem _ hq)
  refine⟨by rw[g1];simp only;omega, ?_,g3⟩;rw[g2];simp only[h1];simp
section
variable {A:List Nd}
theorem EK(h:VT A)(p:List Int):∀f i a0,i<f->i<A.length->dK (aY A) i=0->(aZ A p f i a0).val=FA (cO A) i/\(aZ A p f i a0).used=0/\(aZ A p f i a0).stop = -1/\(JH (cN A) i=true->(aZ A p f i a0).spans=[])
 | 0,i,a0,hf,hi,h0=>om
 | f+1,i,a0,hf,hi,h0=>by
  have hx:=dD hi;have hkm:=fun(k:Int) (hk:k∈(aI A i).kids)=>eZ h hx hk
  obtain⟨l1,l2,l3,l4⟩:=h.len0 hx h0;have hbi:=fun h4=>h.bind hx h4
  have hkd:=fun(j:Nat) (hj:j<(aI A i).kids.length)=>h.kid hx hj
  have hkind:=(h.node hx).node.kind;have ih:=fun(k:Nat) (a:Nat) (hk:k<i)=>EK h p f k a om om
  rw[h.fix hx,h.pln hx];rw[h.len hx] at h0;simp only[aZ];generalize aI A i=x at *;have hfx:uL (aY A) (cO A) x=if x.kind=0 then x.value else if x.kind=3 then c9 x.name (x.kids.map fun k=>(cO A).getD k.toNat vZ) else if x.kind=4 then(cO A).getD (bB x 1) vZ else vZ:=by
   unfold uL;rw[if_neg om]
  rw[hfx];by_cases k0:x.kind=0
  ·rw[if_pos k0,if_pos k0];exact⟨rfl,rfl,rfl,fun _=>rfl⟩
  rw[if_neg k0,if_neg k0];by_cases k3:x.kind=3
  ·rw[if_pos k3,if_pos k3];obtain⟨g1,g2,g3⟩:=Ck (rd:=fun k q=>aZ A p f k q) (a0:=a0) (g:=fun k=>(cO A).getD k.toNat vZ) x.kids ⟨0,[],[],-1⟩ rfl fun k hk q=>by
    have:=hkm k hk;obtain⟨e1,e2,e3,-⟩:=ih k.toNat q this.2 (by rw[show ((k.toNat:Nat):Int)=k by omega];exact l3 k3 k hk);exact⟨e1,e2,e3⟩
   simp only[Bo];rw[if_pos g3,g2,g1];refine⟨rfl,rfl,g3,fun hp=>?_⟩;unfold w7 at hp;simp only[Bool.and_eq_true,Bool.or_eq_true,decide_eq_true_eq] at hp;have hk:x.kids=[]:=by
    rcases hp.1.2 with e|e
    ·exact absurd k3 e
    ·exact List.eq_nil_of_length_eq_zero e
   rw[hk];rfl
  rw[if_neg k3,if_neg k3];have k4:x.kind=4:=om;rw[if_pos k4,if_pos k4];obtain⟨b1,b2,b3,b4⟩:=hbi k4;obtain⟨m1,m2⟩:=l4 k4;have e0:bB x 0<i/\x.kids[0]? = some (bB x 0:Int):=hkd 0 om;have e1:bB x 1<i/\x.kids[1]? = some (bB x 1:Int):=hkd 1 om;obtain⟨c1,c2,c3,c4⟩:=ih _ a0 e0.1 m1;have hl:=Jc h _ (show bB x 0<A.length by omega) m1;rw[hl] at b4;rw[if_pos c3,←b4,c1];have hfd:(dL [FA (cO A) (bB x 0)] (FA (cO A) (bB x 0))).1=0:=by simp[dL,xH]
  simp only[hfd,c2];have hz1:dK (aY A) (bB x 1)=0:=m2 _ (by
   refine List.mem_of_getElem? (i:=0) ?_;rw[List.getElem?_drop];exact e1.2)
  obtain⟨d1,d2,d3,d4⟩:=ih (bB x 1) (a0+0) e1.1 hz1;refine⟨d1, ?_,d3,fun hp=>?_⟩
  ·show 0+(aZ A p f (bB x 1) (a0+0)).used=0
   rw[d2]
  ·unfold w7 at hp;simp only[Bool.and_eq_true,List.all_eq_true] at hp;have q0:=hp.2 _ (List.mem_of_getElem? e0.2);have q1:=hp.2 _ (List.mem_of_getElem? e1.2);rw[Int.toNat_natCast] at q0 q1
   show (aZ A p f (bB x 0) a0).spans++(aZ A p f (bB x 1) (a0+0)).spans=[]
   rw[c4 q0,d4 q1];rfl
theorem Cb{rd:Nat->Nat->wR}{a0:Nat}{b:List Int}:∀(ks:List Int) (s:Pt),(∀k∈ks,∀q,((rd k.toNat q).used:Int)<=dK b k)->(∀k,0<=dK b k)->((bH rd a0 ks s).used:Int)<=s.used+eH b ks
 | [],s,_,_=>by simp[bH,eH]
 | k::ks,s,h,hb=>by
  have h1:=h k (List.mem_cons_self ..) (a0+s.used);have hs:eH b (k::ks)=dK b k+eH b ks:=by
   unfold eH;rw[List.foldl_cons,mJ];unfold eH;omega
  have h0:∀l:List Int,0<=eH b l:=by
   intro l
   induction l with
   | nil=>simp[eH]
   | cons q r ih=>
    unfold eH at ih ⊢;rw[List.foldl_cons,mJ];unfold eH;have:=hb q;omega
  have h2:=h0 ks;rw[hs];simp only[bH];split
  ·have:=Cb (rd:=rd) (a0:=a0) (b:=b) ks ⟨s.used+(rd k.toNat (a0+s.used)).used,s.vals++[(rd k.toNat (a0+s.used)).val],s.spans++(a0,a0+s.used,a0+s.used+(rd k.toNat (a0+s.used)).used)::(rd k.toNat (a0+s.used)).spans,-1⟩ (fun q hq=>h q (List.mem_cons_of_mem _ hq)) hb;simp only at this;omega
  ·simp only;omega
theorem FT(h:VT A)(p:List Int):∀f i a0,i<f->i<A.length->((aZ A p f i a0).used:Int)<=dK (aY A) i
 | 0,i,a0,hf,hi=>om
 | f+1,i,a0,hf,hi=>by
  have hx:=dD hi;have hkm:=fun(k:Int) (hk:k∈(aI A i).kids)=>eZ h hx hk
  have hbi:=fun h4=>h.bind hx h4
  have hkI:=fun(c:Int) (h0:0<=c) (h1:c<(aI A i).kids.length)=>h.kidI hx h0 h1
  have hkind:=(h.node hx).node.kind;have ih:=fun(k:Nat) (a:Nat) (hk:k<i)=>FT h p f k a om om
  have ihm:=fun(k:Nat) (a:Nat) (hk:k<i)=>lF h p f k a om om
  have hsrt:=(h.node hx).srt;have hb:=fun k=>(h.lens0 k).1
  rw[h.len hx];simp only[aZ];generalize aI A i=x at *;have hm0:=(fK (b:=aY A) (M:=1024) om (gE A h.v0).1 (dG x)).1;unfold eC;by_cases k0:x.kind=0
  ·rw[if_pos k0,if_pos k0];exact Int.le_refl _
  rw[if_neg k0,if_neg k0];by_cases k3:x.kind=3
  ·rw[if_pos k3,if_neg (show ¬x.kind=1 by omega),if_pos k3];have:=Cb (rd:=fun k q=>aZ A p f k q) (a0:=a0) (b:=aY A) x.kids ⟨0,[],[],-1⟩ (fun k hk q=>by
    have:=hkm k hk;have e:=ih k.toNat q this.2
    rwa [show ((k.toNat:Nat):Int)=k by omega] at e) hb
   simp only at this
   show ((bH _ a0 x.kids ⟨0,[],[],-1⟩).used:Int)<=_
   omega
  rw[if_neg k3];by_cases k4:x.kind=4
  ·obtain⟨b1,b2,b3,b4⟩:=hbi k4;rw[if_pos k4,if_neg (show ¬x.kind=1 by omega),if_neg k3,if_neg (show ¬x.kind=2 by omega)];obtain⟨c1,c2,c3⟩:=hkI 0 om om;have hk:(x.kids.getD 0 0)=(bB x 0:Int):=by
    have h2:x.kids[0]? = some (bB x 0:Int):=c3;rw[List.getD_eq_getElem?_getD,h2];rfl
   rw[hk];have e1:=ih _ a0 c1;split
   ·rename_i hst;obtain⟨-,m1⟩:=ihm _ a0 c1 hst;have m1:=m1 b3;rw[b4] at m1;obtain⟨q,fq,q1,q2⟩:=jC hsrt m1;rw[fq];simp only;obtain⟨d1,d2,d3⟩:=hkI ((q+1:Nat):Int) om om;have e2:=ih _ (a0+(aZ A p f (bB x 0) a0).used) d1;have ha:(bB x ((q+1:Nat):Int):Int)∈dG x:=by
     unfold dG;rw[if_neg om];rw[Int.toNat_natCast] at d3;refine List.mem_of_getElem? (i:=q) ?_;rw[List.getElem?_drop,Nat.add_comm];exact d3
    have e3:=(mO (ss:=aY A) (dG x) 0 _ ha).1;have e3:dK (aY A) (bB x ((q+1:Nat):Int))<=cG (aY A) (dG x):=e3;omega
   ·omega
  rw[if_neg k4];have hl1:∀u:Int,u<=1+cG (aY A) (dG x)->(x.kind=1->u<=1)->u<=(if x.kind=1 then 1 else if x.kind=2 then 1+cG (aY A) (dG x) else dK (aY A) (x.kids.getD 0 0)+cG (aY A) (dG x)):=fun u h1 h2=>by
   by_cases k1:x.kind=1
   ·rw[if_pos k1];exact h2 k1
   ·rw[if_neg k1,if_pos om];exact h1
  split
  ·exact hl1 ((0:Nat):Int) om (fun _=>om)
  rename_i hp;split
  ·exact hl1 ((0:Nat):Int) om (fun _=>om)
  rename_i hc;rw[not_or] at hc;by_cases k1:x.kind=1
  ·rw[if_pos k1];exact hl1 ((1:Nat):Int) om (fun _=>om)
  ·rw[if_neg k1];have ho:fY x=x.kids.length:=by unfold fY;rw[if_neg k1]
   obtain⟨d1,d2,d3⟩:=hkI (p.getD a0 0) om om;have e2:=ih _ (a0+1) d1;have ha:(bB x (p.getD a0 0):Int)∈dG x:=by unfold dG;rw[if_pos om];exact d2
   have e3:=(mO (ss:=aY A) (dG x) 0 _ ha).1;have e3:dK (aY A) (bB x (p.getD a0 0))<=cG (aY A) (dG x):=e3;exact hl1 (((aZ A p f (bB x (p.getD a0 0)) (a0+1)).used+1:Nat):Int) om (fun e=>absurd e k1)
end
end Go.Ax
namespace Go.Ax
open Go
def dU(raw:List Int)(x:Nd)(q:Nat):Int:=if q<raw.length then max 0 (min (raw.getD q 0) (fY x-1)) else 0
structure Ft where
 cs:List Int
 val:a7
def nU(ft:Nat->Nat->Ft)(q:Nat):List Int->List Int × List a7->List Int × List a7
 | [],s=>s
 | k::ks,s=>nU ft q ks (s.1++(ft k.toNat (q+s.1.length)).cs,s.2++[(ft k.toNat (q+s.1.length)).val])
def jK(A:List Nd)(raw:List Int):Nat->Nat->Nat->Ft
 | 0,_,_=>⟨[],vZ⟩
 | f+1,i,q=>
  if (aI A i).kind=0 then⟨[],(aI A i).value⟩
  else if (aI A i).kind=3 then⟨(nU (fun k q=>jK A raw f k q) q (aI A i).kids ([],[])).1,c9 (aI A i).name (nU (fun k q=>jK A raw f k q) q (aI A i).kids ([],[])).2⟩
  else if (aI A i).kind=4 then
   ⟨(jK A raw f (bB (aI A i) 0) q).cs++(jK A raw f (bB (aI A i) ((dL (aI A i).values (jK A raw f (bB (aI A i) 0) q).val).1+1:Nat)) (q+(jK A raw f (bB (aI A i) 0) q).cs.length)).cs,
    (jK A raw f (bB (aI A i) ((dL (aI A i).values (jK A raw f (bB (aI A i) 0) q).val).1+1:Nat)) (q+(jK A raw f (bB (aI A i) 0) q).cs.length)).val⟩
  else if (aI A i).kind=1 then⟨[dU raw (aI A i) q],.mk 0 ((aI A i).lo+dU raw (aI A i) q) [] []⟩
  else⟨dU raw (aI A i) q::(jK A raw f (bB (aI A i) (dU raw (aI A i) q)) (q+1)).cs,(jK A raw f (bB (aI A i) (dU raw (aI A i) q)) (q+1)).val⟩
theorem CF{raw:List Int}{x:Nd}{q:Nat}(h:1<=fY x):0<=dU raw x q/\dU raw x q<fY x:=by
 unfold dU;split<;>omega
theorem xP{p r:List Int}{q:Nat}{c:Int}(h:p.drop q=c::r):q<p.length/\p.getD q 0=c/\p.drop (q+1)=r:=by
 have h1:q<p.length:=by
  have:=congrArg List.length h;simp at this;omega
 rw[List.drop_eq_getElem_cons h1] at h;obtain⟨e1,e2⟩:=List.cons.inj h;refine⟨h1, ?_,e2⟩;rw[List.getD_eq_getElem?_getD,List.getElem?_eq_getElem h1,e1];rfl
theorem vY{p a r:List Int}{q:Nat}(h:p.drop q=a++r):p.drop (q+a.length)=r:=by
 have:=congrArg (List.drop a.length) h;rw[List.drop_drop,List.drop_left] at this;exact this
theorem sN{ft:Nat->Nat->Ft}{q:Nat}:∀(ks:List Int) (s:List Int × List a7),∃m,(nU ft q ks s).1=s.1++m
 | [],s=>⟨[],by simp[nU]⟩
 | k::ks,s=>by
  obtain⟨m,hm⟩:=sN (ft:=ft) (q:=q) ks (s.1++(ft k.toNat (q+s.1.length)).cs,s.2++[(ft k.toNat (q+s.1.length)).val]);exact⟨(ft k.toNat (q+s.1.length)).cs++m,by rw[nU,hm,List.append_assoc]⟩
structure As(r:wR)(f:Ft):Prop where
 val:r.val=f.val
 used:r.used=f.cs.length
 stop:r.stop = -1
theorem K4{ft:Nat->Nat->Ft}{rd:Nat->Nat->wR}{p:List Int}{q:Nat}{post:List Int}:∀(ks:List Int) (s:List Int × List a7) (pt:Pt) (m:List Int),(∀k∈ks,∀q post,p.drop q=(ft k.toNat q).cs++post->As (rd k.toNat q) (ft k.toNat q)) ->
  pt.used=s.1.length->pt.vals=s.2->pt.stop = -1->(nU ft q ks s).1=s.1++m->p.drop (q+s.1.length)=m++post ->
  (bH rd q ks pt).used=(nU ft q ks s).1.length/\(bH rd q ks pt).vals=(nU ft q ks s).2/\(bH rd q ks pt).stop = -1
 | [],s,pt,m,_,h1,h2,h3,_,_=>⟨h1,h2,h3⟩
 | k::ks,s,pt,m,hk,h1,h2,h3,hm,hd=>by
  rw[nU] at hm;obtain⟨m',hm'⟩:=sN (ft:=ft) (q:=q) ks (s.1++(ft k.toNat (q+s.1.length)).cs,s.2++[(ft k.toNat (q+s.1.length)).val]);have e:m=(ft k.toNat (q+s.1.length)).cs++m':=by
   rw[hm',List.append_assoc] at hm;exact(List.append_cancel_left hm).symm
  rw[e,List.append_assoc] at hd;obtain⟨a1,a2,a3⟩:=hk k (List.mem_cons_self ..) _ _ hd;simp only[bH,nU];rw[h1,if_pos a3];refine K4 (post:=post) ks _ _ m' (fun q hq=>hk q (List.mem_cons_of_mem _ hq)) (by simp only;rw[a2,List.length_append]) (by simp only;rw[h2,a1]) rfl hm' ?_;simp only;rw[List.length_append,←Nat.add_assoc];exact vY hd
section
variable {A:List Nd}
theorem VT.opt(h:VT A){i:Nat}{x:Nd}(hx:A[i]? = some x)(hk:x.kind=1∨x.kind=2):1<=fY x:=by
 have hg:=h.node hx;unfold fY;split
 ·have:=(cD hg.node.num).1;omega
 ·have:=(hg.opt.ch om).1;omega
theorem Ei(h:VT A)(raw p:List Int):∀f i q post,i<f->i<A.length->p.drop q=(jK A raw f i q).cs++post->As (aZ A p f i q) (jK A raw f i q)
 | 0,i,q,post,hf,hi,hd=>om
 | f+1,i,q,post,hf,hi,hd=>by
  have hx:=dD hi;have hkm:=fun(k:Int) (hk:k∈(aI A i).kids)=>eZ h hx hk
  have hbi:=fun h4=>h.bind hx h4
  have hkI:=fun(c:Int) (h0:0<=c) (h1:c<(aI A i).kids.length)=>h.kidI hx h0 h1
  have hopt:=fun hk=>h.opt hx hk
  have hkind:=(h.node hx).node.kind;have hsrt:=(h.node hx).srt;have ih:=fun(k:Nat) (q:Nat) (post:List Int) (hk:k<i)=>Ei h raw p f k q post om om
  have ihm:=fun(k:Nat) (a:Nat) (hk:k<i)=>lF h p f k a om om
  simp only[aZ,jK] at hd ⊢;generalize aI A i=x at *;by_cases k0:x.kind=0
  ·rw[if_pos k0,if_pos k0];exact⟨rfl,rfl,rfl⟩
  rw[if_neg k0] at hd;rw[if_neg k0,if_neg k0];by_cases k3:x.kind=3
  ·rw[if_pos k3] at hd;rw[if_pos k3,if_pos k3];obtain⟨m,hm⟩:=sN (ft:=fun k q=>jK A raw f k q) (q:=q) x.kids ([],[]);simp only at hd;obtain⟨g1,g2,g3⟩:=K4 (ft:=fun k q=>jK A raw f k q) (rd:=fun k q=>aZ A p f k q) (p:=p) (q:=q) (post:=post) x.kids ([],[]) ⟨0,[],[],-1⟩ m (fun k hk q' post' hd'=>ih k.toNat q' post' (hkm k hk).2 hd') rfl rfl rfl hm (by
    rw[hm] at hd;simpa using hd)
   simp only[Bo];exact⟨by simp only;rw[if_pos g3,g2],g1,g3⟩
  rw[if_neg k3] at hd;rw[if_neg k3,if_neg k3];by_cases k4:x.kind=4
  ·rw[if_pos k4] at hd;rw[if_pos k4,if_pos k4];obtain⟨b1,b2,b3,b4⟩:=hbi k4;obtain⟨c1,c2,c3⟩:=hkI 0 om om;simp only[List.append_assoc] at hd;obtain⟨a1,a2,a3⟩:=ih _ q _ c1 hd;obtain⟨-,m1⟩:=ihm _ q c1 a3;have m1:=m1 b3;rw[b4] at m1;obtain⟨w,fq,q1,q2⟩:=jC hsrt m1;have hd2:=vY hd;rw[if_pos a3];rw[←a1,fq] at hd2 ⊢;rw[a2];simp only at hd2 ⊢;obtain⟨d1,d2,d3⟩:=hkI ((w+1:Nat):Int) om om;obtain⟨e1,e2,e3⟩:=ih _ _ _ d1 hd2;exact⟨e1,by simp only;rw[e2,List.length_append],e3⟩
  rw[if_neg k4] at hd;rw[if_neg k4,if_neg k4];have hb:=CF (raw:=raw) (q:=q) (hopt om);generalize dU raw x q=c at *;by_cases k1:x.kind=1
  ·rw[if_pos k1] at hd;obtain⟨p1,p2,p3⟩:=xP hd;rw[if_neg (show ¬p.length<=q by omega),p2,if_neg (show ¬(c<0∨fY x<=c) by omega),if_pos k1,if_pos k1];exact⟨rfl,rfl,rfl⟩
  ·rw[if_neg k1] at hd;obtain⟨p1,p2,p3⟩:=xP hd;rw[if_neg (show ¬p.length<=q by omega),p2,if_neg (show ¬(c<0∨fY x<=c) by omega),if_neg k1,if_neg k1];have ho:fY x=x.kids.length:=by unfold fY;rw[if_neg k1]
   obtain⟨d1,d2,d3⟩:=hkI c om om;obtain⟨e1,e2,e3⟩:=ih _ _ _ d1 p3;exact⟨e1,by simp only;rw[e2,List.length_cons],e3⟩
theorem OM(h:VT A)(raw:List Int){f i q:Nat}(hf:i<f)(hi:i<A.length):As (aZ A (List.replicate q 0++(jK A raw f i q).cs) f i q) (jK A raw f i q):=
 Ei h raw _ f i q [] hf hi (by rw[List.append_nil,List.drop_append_of_le_length (by simp)];simp)
theorem Hz(h:VT A)(raw:List Int){f i q:Nat}(hf:i<f)(hi:i<A.length):((jK A raw f i q).cs.length:Int)<=dK (aY A) i:=by
 rw[←(OM h raw (q:=q) hf hi).used];exact FT h _ f i q hf hi
theorem KT{ft:Nat->Nat->Ft}{rd:Nat->Nat->wR}{raw p:List Int}{q:Nat}:∀(ks:List Int) (s:List Int × List a7) (pt:Pt) (r:List Int) (m:Nat),(∀k∈ks,∀q post,p.drop q=(ft k.toNat q).cs++post->As (rd k.toNat q) (ft k.toNat q)) ->
  (∀k∈ks,∀q m,m<(ft k.toNat q).cs.length->p.drop q=(ft k.toNat q).cs.take m->∃n,n<A.length/\(rd k.toNat q).stop=(n:Int)/\(ft k.toNat q).cs[m]? = some (dU raw (aI A n) (q+m))) ->
  pt.used=s.1.length->(nU ft q ks s).1=s.1++r->m<r.length->p.drop (q+s.1.length)=r.take m->∃n,n<A.length/\(bH rd q ks pt).stop=(n:Int)/\r[m]? = some (dU raw (aI A n) (q+s.1.length+m))
 | [],s,pt,r,m,_,_,_,hr,hm,_=>by
  rw[nU] at hr;have:r=[]:=by
   have:=congrArg List.length hr;rw[List.length_append] at this;exact List.eq_nil_of_length_eq_zero om
  subst this;simp at hm
 | k::ks,s,pt,r,m,hka,hkb,hu,hr,hm,hd=>by
  rw[nU] at hr;obtain⟨r',hr'⟩:=sN (ft:=ft) (q:=q) ks (s.1++(ft k.toNat (q+s.1.length)).cs,s.2++[(ft k.toNat (q+s.1.length)).val]);have e:r=(ft k.toNat (q+s.1.length)).cs++r':=by
   rw[hr',List.append_assoc] at hr;exact(List.append_cancel_left hr).symm
  have hka0:=hka k (List.mem_cons_self ..) (q+s.1.length);have hkb0:=hkb k (List.mem_cons_self ..) (q+s.1.length);have hrec:=fun(pt':Pt) (m':Nat)=>KT (ft:=ft) (rd:=rd) (raw:=raw) (p:=p) (q:=q) ks (s.1++(ft k.toNat (q+s.1.length)).cs,s.2++[(ft k.toNat (q+s.1.length)).val]) pt' r' m' (fun q hq=>hka q (List.mem_cons_of_mem _ hq)) (fun q hq=>hkb q (List.mem_cons_of_mem _ hq))
  subst e;simp only[bH];rw[hu];generalize ft k.toNat (q+s.1.length)=F at *;generalize rd k.toNat (q+s.1.length)=R at *;by_cases hc:m<F.cs.length
  ·rw[List.take_append_of_le_length om] at hd;obtain⟨n,n1,n2,n3⟩:=hkb0 m hc hd;rw[if_neg (by rw[n2];omega)];exact⟨n,n1,n2,by rw[List.getElem?_append_left hc];exact n3⟩
  ·obtain⟨m',rfl⟩:∃m',m=F.cs.length+m':=⟨m-F.cs.length,om⟩
   rw[List.take_length_add_append] at hd;obtain⟨a1,a2,a3⟩:=hka0 _ hd;rw[if_pos a3];have hd2:=vY hd;rw[List.length_append] at hm;obtain⟨n,n1,n2,n3⟩:=hrec ⟨s.1.length+R.used,pt.vals++[R.val],pt.spans++(q,q+s.1.length,q+s.1.length+R.used)::R.spans,-1⟩ m' (by simp only;rw[a2,List.length_append]) hr' om (by
    simp only;rw[List.length_append,←Nat.add_assoc];exact hd2)
   refine⟨n,n1,n2, ?_⟩;rw[List.getElem?_append_right om,Nat.add_sub_cancel_left,n3];simp only[List.length_append];congr 2;omega
theorem Ky(h:VT A)(raw p:List Int):∀f i q m,i<f->i<A.length->m<(jK A raw f i q).cs.length->p.drop q=(jK A raw f i q).cs.take m->∃n,n<A.length/\(aZ A p f i q).stop=(n:Int)/\(jK A raw f i q).cs[m]? = some (dU raw (aI A n) (q+m))
 | 0,i,q,m,hf,hi,hm,hd=>om
 | f+1,i,q,m,hf,hi,hm,hd=>by
  have hx:=dD hi;have hkm:=fun(k:Int) (hk:k∈(aI A i).kids)=>eZ h hx hk
  have hbi:=fun h4=>h.bind hx h4
  have hkI:=fun(c:Int) (h0:0<=c) (h1:c<(aI A i).kids.length)=>h.kidI hx h0 h1
  have hopt:=fun hk=>h.opt hx hk
  have hkind:=(h.node hx).node.kind;have hsrt:=(h.node hx).srt;have ih:=fun(k:Nat) (q:Nat) (post:List Int) (hk:k<i)=>Ei h raw p f k q post om om
  have ihb:=fun(k:Nat) (q:Nat) (m:Nat) (hk:k<i)=>Ky h raw p f k q m om om
  have ihm:=fun(k:Nat) (a:Nat) (hk:k<i)=>lF h p f k a om om
  have hnode:∀y,aI A i=y->aI A i=y:=fun y e=>e
  simp only[aZ,jK] at hm hd ⊢;generalize hxe:aI A i=x at *;by_cases k0:x.kind=0
  ·rw[if_pos k0] at hm;simp at hm
  rw[if_neg k0] at hm hd ⊢;rw[if_neg k0];by_cases k3:x.kind=3
  ·rw[if_pos k3] at hm hd ⊢;rw[if_pos k3];obtain⟨r,hr⟩:=sN (ft:=fun k q=>jK A raw f k q) (q:=q) x.kids ([],[]);rw[List.nil_append] at hr;simp only at hm hd ⊢;obtain⟨n,n1,n2,n3⟩:=KT (A:=A) (ft:=fun k q=>jK A raw f k q) (rd:=fun k q=>aZ A p f k q) (raw:=raw) (p:=p) (q:=q) x.kids ([],[]) ⟨0,[],[],-1⟩ r m (fun k hk q' post' hd'=>ih k.toNat q' post' (hkm k hk).2 hd') (fun k hk q' m' hm' hd'=>ihb k.toNat q' m' (hkm k hk).2 hm' hd') rfl (by rw[hr];rfl) (by rw[←hr];exact hm) (by rw[←hr];exact hd);exact⟨n,n1,n2,by rw[hr];exact n3⟩
  rw[if_neg k3] at hm hd ⊢;rw[if_neg k3];by_cases k4:x.kind=4
  ·rw[if_pos k4] at hm hd ⊢;rw[if_pos k4];obtain⟨b1,b2,b3,b4⟩:=hbi k4;obtain⟨c1,c2,c3⟩:=hkI 0 om om;simp only at hm hd ⊢;by_cases hc:m<(jK A raw f (bB x 0) q).cs.length
   ·rw[List.take_append_of_le_length om] at hd;obtain⟨n,n1,n2,n3⟩:=ihb _ q m c1 hc hd;rw[if_neg (by rw[n2];omega)];exact⟨n,n1,n2,by rw[List.getElem?_append_left hc];exact n3⟩
   ·obtain⟨m',rfl⟩:∃m',m=(jK A raw f (bB x 0) q).cs.length+m':=⟨m-(jK A raw f (bB x 0) q).cs.length,om⟩
    rw[List.take_length_add_append] at hd;rw[List.length_append] at hm;obtain⟨a1,a2,a3⟩:=ih _ q _ c1 hd;obtain⟨-,m1⟩:=ihm _ q c1 a3;have m1:=m1 b3;rw[b4] at m1;obtain⟨w,fq,q1,q2⟩:=jC hsrt m1;have hd2:=vY hd;rw[if_pos a3];rw[List.getElem?_append_right om,Nat.add_sub_cancel_left];rw[a2];rw[←a1,fq] at hd2 hm ⊢;simp only at hd2 hm ⊢;obtain⟨d1,d2,d3⟩:=hkI ((w+1:Nat):Int) om om;obtain⟨n,n1,n2,n3⟩:=ihb _ _ m' d1 om hd2;exact⟨n,n1,n2,by rw[n3,Nat.add_assoc]⟩
  rw[if_neg k4] at hm hd ⊢;rw[if_neg k4];have hb:=CF (raw:=raw) (q:=q) (hopt om);by_cases k1:x.kind=1
  ·rw[if_pos k1] at hm hd ⊢;have hm0:m=0:=by simp at hm;omega
   subst hm0;have hl:p.length<=q:=by
    have:=congrArg List.length hd;simp at this;omega
   rw[if_pos hl];exact⟨i,hi,rfl,by rw[hxe,if_pos k1];rfl⟩
  ·rw[if_neg k1] at hm hd ⊢;rcases Nat.eq_zero_or_pos m with hm0|hm0
   ·subst hm0;have hl:p.length<=q:=by
     have:=congrArg List.length hd;simp at this;omega
    rw[if_pos hl];exact⟨i,hi,rfl,by rw[hxe,if_neg k1];rfl⟩
   ·obtain⟨m',rfl⟩:∃m',m=m'+1:=⟨m-1,om⟩
    rw[List.take_succ_cons] at hd;simp only[List.length_cons] at hm;obtain⟨p1,p2,p3⟩:=xP hd;generalize dU raw x q=c at *;rw[if_neg (show ¬p.length<=q by omega),p2,if_neg (show ¬(c<0∨fY x<=c) by omega),if_neg k1];have ho:fY x=x.kids.length:=by unfold fY;rw[if_neg k1]
    obtain⟨d1,d2,d3⟩:=hkI c om om;obtain⟨n,n1,n2,n3⟩:=ihb _ _ m' d1 om p3;exact⟨n,n1,n2,by
     simp only[List.getElem?_cons_succ];rw[n3];congr 2;omega⟩
end
end Go.Ax
namespace Go.Ax
open Go
def gN(x:Nd):Nat:=if x.kind=3 then max 3 x.kids.length else 3
def HP(A:List Nd):Nat->Nat
 | 0=>1
 | n+1=>HP A n*gN (aI A (n+1))
theorem M3(x:Nd):3<=gN x:=by unfold gN;split<;>omega
theorem DS(A:List Nd):∀n,1<=HP A n
 | 0=>Nat.le_refl _
 | n+1=>by
  have h1:=DS A n;have h2:=M3 (aI A (n+1));rw[HP];exact Nat.le_trans om (Nat.mul_le_mul h1 h2)
theorem Hm(A:List Nd)(n:Nat):3*HP A n<=HP A (n+1):=by
 rw[HP,Nat.mul_comm];exact Nat.mul_le_mul_left _ (M3 _)
theorem sO(A:List Nd){k:Nat}:∀{n:Nat},k<=n->HP A k<=HP A n
 | 0,h=>by rw[show k=0 by omega];exact Nat.le_refl _
 | n+1,h=>by
  rcases Nat.lt_or_ge k (n+1) with h'|h'
  ·have:=sO A (k:=k) (n:=n) om;have:=Hm A n;omega
  ·rw[show k=n+1 by omega];exact Nat.le_refl _
theorem Cu{rd:Nat->Nat->wR}{a0 M:Nat}(hM:3<=M):∀(ks:List Int) (s:Pt),(∀k∈ks,∀q,2*(rd k.toNat q).spans.length+3<=M)->2*(bH rd a0 ks s).spans.length<=2*s.spans.length+ks.length*(M-1)
 | [],s,_=>by simp[bH]
 | k::ks,s,h=>by
  have h1:=h k (List.mem_cons_self ..) (a0+s.used);have e:(k::ks).length*(M-1)=ks.length*(M-1)+(M-1):=by rw[List.length_cons,Nat.succ_mul]
  rw[e];simp only[bH];generalize hR:rd k.toNat (a0+s.used)=R at *;split
  ·have:=Cu (rd:=rd) (a0:=a0) hM ks ⟨s.used+R.used,s.vals++[R.val],s.spans++(a0,a0+s.used,a0+s.used+R.used)::R.spans,-1⟩ fun q hq=>h q (List.mem_cons_of_mem _ hq)
   simp only[List.length_append,List.length_cons] at this;omega
  ·simp only[List.length_append,List.length_cons];have:=Nat.zero_le (ks.length*(M-1));omega
theorem Bs{A:List Nd}(h:VT A)(p:List Int):∀f i a0,i<f->i<A.length->2*(aZ A p f i a0).spans.length+3<=3*HP A i
 | 0,i,a0,hf,hi=>om
 | f+1,i,a0,hf,hi=>by
  have hx:=dD hi;have hkm:=fun(k:Int) (hk:k∈(aI A i).kids)=>eZ h hx hk
  have hbi:=fun h4=>h.bind hx h4
  have hkI:=fun(c:Int) (h0:0<=c) (h1:c<(aI A i).kids.length)=>h.kidI hx h0 h1
  have hkind:=(h.node hx).node.kind;have hsrt:=(h.node hx).srt;have ih:=fun(k:Nat) (a:Nat) (hk:k<i)=>Bs h p f k a om om
  have ihm:=fun(k:Nat) (a:Nat) (hk:k<i)=>lF h p f k a om om
  have hp1:=DS A i;have hgi:∀j,i=j+1->HP A i=HP A j*gN (aI A i):=fun j e=>by rw[e,HP]
  have h0:∀r:wR,r.spans=[]->2*r.spans.length+3<=3*HP A i:=fun r e=>by rw[e];simp;omega
  simp only[aZ];generalize aI A i=x at *;by_cases k0:x.kind=0
  ·rw[if_pos k0];exact h0 _ rfl
  rw[if_neg k0];by_cases k3:x.kind=3
  ·rw[if_pos k3]
   show 2*(bH (fun k q=>aZ A p f k q) a0 x.kids ⟨0,[],[],-1⟩).spans.length+3<=3*HP A i
   rcases Nat.eq_zero_or_pos i with e|e
   ·have hk:x.kids=[]:=by
     cases hkk:x.kids with
     | nil=>rfl
     | cons k ks=>have:=hkm k (by rw[hkk];simp);omega
    rw[hk];simp only[bH,List.length_nil];omega
   ·obtain⟨j,rfl⟩:∃j,i=j+1:=⟨i-1,om⟩
    have hj:=DS A j;have hc:=Cu (rd:=fun k q=>aZ A p f k q) (a0:=a0) (M:=3*HP A j) om x.kids ⟨0,[],[],-1⟩ fun k hk q=>by
     have:=hkm k hk;have e1:=ih k.toNat q this.2;have e2:=sO A (k:=k.toNat) (n:=j) om;omega
    simp only[List.length_nil] at hc;rw[hgi j rfl];have hg:gN x=max 3 x.kids.length:=by unfold gN;rw[if_pos k3]
    rw[hg];generalize x.kids.length=n at hc ⊢;generalize HP A j=H at hc hj ⊢;rcases Nat.lt_or_ge n 3 with hn|hn
    ·rw[Nat.max_eq_left om];have:n*(3*H-1)<=2*(3*H-1):=Nat.mul_le_mul_right _ om;omega
    ·rw[Nat.max_eq_right hn];have e1:n*(3*H-1)+n=n*(3*H):=by
      rw[←Nat.mul_succ];congr 1;omega
     have e2:3*(H*n)=n*(3*H):=by rw[Nat.mul_comm n,Nat.mul_assoc]
     omega
  rw[if_neg k3];by_cases k4:x.kind=4
  ·rw[if_pos k4];obtain⟨b1,b2,b3,b4⟩:=hbi k4;obtain⟨c1,c2,c3⟩:=hkI 0 om om;have e1:=ih _ a0 c1;obtain⟨j,rfl⟩:∃j,i=j+1:=⟨i-1,om⟩
   have hs:=Hm A j;have hj:=DS A j;have m1':=sO A (k:=bB x 0) (n:=j) om;split
   ·rename_i hst;obtain⟨-,m1⟩:=ihm _ a0 c1 hst;have m1:=m1 b3;rw[b4] at m1;obtain⟨q,fq,q1,q2⟩:=jC hsrt m1;rw[fq];simp only[List.length_append];obtain⟨d1,d2,d3⟩:=hkI ((q+1:Nat):Int) om om;have e2:=ih _ (a0+(aZ A p f (bB x 0) a0).used) d1;have m2':=sO A (k:=bB x ((q+1:Nat):Int)) (n:=j) om;omega
   ·omega
  rw[if_neg k4];split
  ·exact h0 _ rfl
  split
  ·exact h0 _ rfl
  rename_i hc;rw[not_or] at hc;split
  ·exact h0 _ rfl
  ·rename_i k1;have ho:fY x=x.kids.length:=by unfold fY;rw[if_neg k1]
   obtain⟨d1,d2,d3⟩:=hkI (p.getD a0 0) om om;have e1:=ih _ (a0+1) d1;have m1':=sO A (k:=bB x (p.getD a0 0)) (n:=i) om;simp only;omega
def kG(A:List Nd)(r:List Int):List Int:=(jK A r A.length (A.length-1) 0).cs
theorem Jp{A:List Nd}(h:VT A)(r:List Int):(kG A r).length<=1024:=by
 have h1:=Hz h r (f:=A.length) (i:=A.length-1) (q:=0) (by have:=h.pos;omega) (by have:=h.pos;omega);have h2:=(h.lens0 ((A.length-1:Nat):Int)).2;unfold kG;omega
end Go.Ax
namespace Go.Ax
open Go
section
variable {rd:Nat->Nat->wR} {a0:Nat}
def Ih(rd:Nat->Nat->wR)(a0:Nat)(k:Int)(s:Pt):Pt:=⟨s.used+(rd k.toNat (a0+s.used)).used,s.vals++[(rd k.toNat (a0+s.used)).val],s.spans++(a0,a0+s.used,a0+s.used+(rd k.toNat (a0+s.used)).used)::(rd k.toNat (a0+s.used)).spans,(rd k.toNat (a0+s.used)).stop⟩
theorem i6(k:Int)(ks:List Int)(s:Pt):bH rd a0 (k::ks) s=if (rd k.toNat (a0+s.used)).stop = -1 then bH rd a0 ks (Ih rd a0 k s) else Ih rd a0 k s:=by
 rw[bH];by_cases h:(rd k.toNat (a0+s.used)).stop = -1
 ·rw[if_pos h,if_pos h];unfold Ih;rw[h]
 ·rw[if_neg h,if_neg h];rfl
theorem pX(m:List Int):∀(l:List Int) (s:Pt),s.stop = -1->(bH rd a0 l s).stop = -1->bH rd a0 (l++m) s=bH rd a0 m (bH rd a0 l s)
 | [],s,_,_=>rfl
 | k::l,s,h,h2=>by
  rw[i6] at h2;rw[List.cons_append,i6,i6];by_cases hk:(rd k.toNat (a0+s.used)).stop = -1
  ·rw[if_pos hk] at h2;rw[if_pos hk,if_pos hk];exact pX m l _ hk h2
  ·rw[if_neg hk] at h2;exact absurd h2 hk
theorem A3:∀(ks:List Int) (s:Pt),∃X,(bH rd a0 ks s).spans=s.spans++X
 | [],s=>⟨[],by simp[bH]⟩
 | k::ks,s=>by
  rw[i6];split
  ·obtain⟨X,hX⟩:=A3 ks (Ih rd a0 k s);refine⟨(a0,a0+s.used,a0+s.used+(rd k.toNat (a0+s.used)).used)::(rd k.toNat (a0+s.used)).spans++X, ?_⟩;rw[hX];unfold Ih;rw[List.append_assoc]
  ·exact⟨_,rfl⟩
theorem lD{ks:List Int}{j:Nat}{s:Pt}(hj:j<ks.length)(h0:s.stop = -1)(h:(bH rd a0 (ks.take j) s).stop = -1) :
  bH rd a0 (ks.take (j+1)) s=Ih rd a0 ks[j] (bH rd a0 (ks.take j) s):=by
 rw[List.take_succ_eq_append_getElem hj,pX _ _ _ h0 h,i6];split
 ·rfl
 ·rfl
theorem p5{ks:List Int}{j:Nat}{s:Pt}(hj:j<ks.length)(h0:s.stop = -1)(h:(bH rd a0 (ks.take j) s).stop = -1)(hk:(bH rd a0 (ks.take (j+1)) s).stop≠-1) :
  bH rd a0 ks s=bH rd a0 (ks.take (j+1)) s:=by
 have e:ks=ks.take j++ks[j]::ks.drop (j+1):=by simp
 have h2:=lD (rd:=rd) (a0:=a0) hj h0 h;rw[h2] at hk ⊢
 conv=>lhs;rw[e]
 rw[pX _ _ _ h0 h,i6,if_neg (show ¬(rd ks[j].toNat (a0+(bH rd a0 (ks.take j) s).used)).stop = -1 from hk)]
theorem Fr{ks:List Int}{j:Nat}{s:Pt}(h0:s.stop = -1)(h:(bH rd a0 (ks.take j) s).stop = -1):∃X,(bH rd a0 ks s).spans=(bH rd a0 (ks.take j) s).spans++X:=by
 have e:ks=ks.take j++ks.drop j:=by simp
 obtain⟨X,hX⟩:=A3 (rd:=rd) (a0:=a0) (ks.drop j) (bH rd a0 (ks.take j) s);exact⟨X,by rw[←hX,←pX _ _ _ h0 h,←e]⟩
theorem vI{ks:List Int}{j:Nat}{s:Pt}(hj:j<ks.length)(h0:s.stop = -1)(h:(bH rd a0 (ks.take j) s).stop = -1) :
  (bH rd a0 (ks.take j) s).spans.length+1+(rd ks[j].toNat (a0+(bH rd a0 (ks.take j) s).used)).spans.length<=(bH rd a0 ks s).spans.length:=by
 have h2:=lD (rd:=rd) (a0:=a0) hj h0 h;have h3:∃X,(bH rd a0 ks s).spans=(bH rd a0 (ks.take (j+1)) s).spans++X:=by
  by_cases hk:(bH rd a0 (ks.take (j+1)) s).stop = -1
  ·exact Fr h0 hk
  ·exact⟨[],by rw[p5 hj h0 h hk,List.append_nil]⟩
 obtain⟨X,hX⟩:=h3;rw[hX,h2];unfold Ih;simp only[List.length_append,List.length_cons];omega
end
end Go.Ax
namespace Go.Ax
open Go
section
variable {ft:Nat->Nat->Ft} {q:Nat}
end
end Go.Ax
