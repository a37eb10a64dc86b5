/- A part of the proof. -/
import Derived.Test.YtobknjmfgjaehaaGreatDoorAx16
import Derived.Test.YtobknjmfgjaehaaGreatDoorProg
import Derived.KernelRfl
set_option linter.unusedVariables false
set_option linter.unusedSimpArgs false
set_option linter.unusedSectionVars false
namespace Go.Proofs.YtobknjmfgjaehaaGreatDoor
open Go Go.Ax Go.Proofs Tryz
set_option maxRecDepth 100000
set_option maxHeartbeats 16000000
theorem u5{r:wR}{rid len:Nat}{mem:aN}{n:Nat}{v1 v2:Int}{v3:List UInt8}{v4:List a7}{us st:Int}{xs:List AV}(hm:lk mem rid=some (.row 186 3 xs))(hx:xs=c7 r.spans)(hl:len=r.spans.length)(hv:r.val = .mk v1 v2 v3 v4)(hu:us=(r.used:Int))(hs:st=r.stop) :
  kQ 0 (OF r) (.agg [.int .i64 v1,.int .i64 v2,.str v3,.il 4 (aO v4),.int .i64 us,.int .i64 st,.sl rid 0 len]) mem n:=by
 obtain⟨v,u,s,sp⟩:=r;simp only at hx hl hv hu hs;subst hv hu hs hx;exact bN (n':=1) (m':=[(0,.row 186 3 (c7 sp))]) [(rid,0)] (by rfl) ⟨⟨rid,_,by simp[lk],hm,.same (hZ _)⟩,trivial⟩
  (.agg' (.s (.s (.s (.cons (.same _ (.il' (aS _))) (.s (.s (.cons (.slE (by simp[lk]) hl) .nil)))))))) ⟨rfl,rfl,rfl⟩
theorem wF{r:wR}{mem:aN}{n pid:Nat}{v1 v2:Int}{v3:List UInt8}{v4:AV}{ks:List a7}{us st:Int}(hm:lk mem pid=some (.row 186 3 []))(hx:r.spans=[])(hv:r.val = .mk v1 v2 v3 ks)(h4:Cv mem [(pid,0)] v4 (.il 4 (aO ks)))(hu:us=(r.used:Int))(hs:st=r.stop) :
  kQ 0 (OF r) (.agg [.int .i64 v1,.int .i64 v2,.str v3,v4,.int .i64 us,.int .i64 st,.nsl]) mem n:=by
 obtain⟨v,u,s,sp⟩:=r;simp only at hx hv hu hs;subst hv hu hs hx;exact bN (n':=1) (m':=[(0,.row 186 3 [])]) [(pid,0)] (by rfl) ⟨⟨pid,_,by simp[lk],hm,.nil⟩,trivial⟩
  (.agg' (.s (.s (.s (.cons h4 (.s (.s (.cons (.nslk pid 0 _ hm (by simp[lk])) .nil)))))))) ⟨rfl,rfl,rfl⟩
theorem tK{F:FuncId}{args:List AV}{R:wR}(hq:aG prog [] F args [] 0 (OF R)){mem:aN}{nx:Nat}{K:AV->aN->Nat->Prop}
  (hc:(kW [(nx,AB.row 186 3 [])] && (lC [(0,nx)] && (Nat.ble nx (nx+1) && (lQ [] nx [(nx,AB.row 186 3 [])] && sF [] 0 nx (nx+1) [(0,nx)]))))=true)
  (hk:K (Cl R.val R.used R.stop nx R.spans.length) ((nx,.row 186 3 (c7 R.spans))::mem) (nx+1)) (ha:iW args) :
  aG prog [] F args mem nx K:=by
 refine aG.useN bG [] hq rfl (.same ha) trivial rfl ?_;rintro r m k ⟨rfl,rfl,rfl⟩;obtain⟨⟨v1,v2,v3,v4⟩,u,st,sp⟩:=R;have hdr:∀m:aN,fE (fF []) m=m:=by
  intro m
  induction m with
  | nil=>rfl
  | cons a m ih=>obtain⟨k,b⟩:=a;simp only[fF,fE,zH];rw[show fE [] m=m from ih]
 refine⟨[(0,nx)],Cl (.mk v1 v2 v3 v4) u st nx sp.length,[(nx,.row 186 3 (c7 sp))],nx+1,.agg' (.s (.s (.s (.cons (.same _ (.il' (aS _))) (.s (.s (.cons (.slE rfl rfl) .nil))))))),⟨aJ 0 (hZ _),trivial⟩,hc, ?_⟩;rw[hdr];exact hk
theorem QN{A:List Nd}(h:VT A){p:List Int}(hp:p.length<=1000000000)(hpi:∀x∈p,i64 x)(hS:∀f i a0,i<f->i<A.length->(aZ A p f i a0).spans.length<=4294967296)(f:Nat)(ih:PC A p f):PC A p (f+1):=by
 intro i a0 hif hi ha;have hx:=dD hi;have hg:=h.node hx;have hkm:=fun(k:Int) (hk:k∈(aI A i).kids)=>eZ h hx hk
 have hkI:=fun(c:Int) (h0:0<=c) (h1:c<(aI A i).kids.length)=>h.kidI hx h0 h1
 have hbi:=fun h4=>h.bind hx h4
 have hne:=oL hi;have hnn:=a6 (aI A i);have nA:NN (.il 12 (aW A)):=.il' (aU A);have np:NN (.il 1 (aT p)):=.il' (aQ p);have hkl:=h.tin.klen _ (List.mem_of_getElem? hx);have hfv:=fun(v:a7)=>M1 (aI A i).values v (by have:=h.tin.vlen _ (List.mem_of_getElem? hx);omega) hg.val
 have hop:=Eb (aI A i) (fun _=>hg.node.num);have hmem:=fun(k a:Nat) (hk:k<i)=>lF h p f k a om om
 have hbd:∀(k q:Nat),q<=p.length->q+(aZ A p f k q).used<=p.length:=fun k q hq=>(v8 (A:=A) p f k q hq).1
 have hkind:=hg.node.kind;have hnum:=fun(e:(aI A i).kind=1)=>cD hg.node.num
 have hsrt:=hg.srt;have hSi:=hS (f+1) i a0 hif hi;obtain⟨F,hF⟩:∃F,F=aZ A p (f+1) i a0:=⟨_,rfl⟩
 rw[←hF] at hSi ⊢;simp only[aZ] at hF;have hpa:(aI A i).kind=3->_:=fun e=>NJ h hp ih hx om ha (by rw[hF,if_neg om,if_pos e] at hSi;exact hSi)
 clear hg hx;have hpe:∀q:Nat,q<p.length->(aT p)[(q:Int).toNat]? = some (.int .i64 (p.getD q 0)):=fun q hq=>by
  rw[l6 hq,List.getD_eq_getElem?_getD,List.getElem?_eq_getElem hq];rfl
 have hpc:∀q:Nat,i64 (p.getD q 0):=fun q=>by
  rw[List.getD_eq_getElem?_getD];cases e:p[q]? with
  | none=>exact⟨by simp,by simp⟩
  | some v=>exact hpi v (List.mem_of_getElem? e)
 have hon:fY (aI A i)=if (aI A i).kind=1 then(aI A i).hi-(aI A i).lo+1 else(aI A i).kids.length:=rfl
 generalize aI A i=x at *;obtain⟨kind,name,lo,hi',ws,lbs,vals,kids,⟨vk,vn,vs,vks⟩⟩:=x;simp only at hkm hkI hbi hkl hF hfv hkind hnum hsrt hpa hon;refine aM bG func71 rfl ?_
 conv=>whnf
 refine dI.ph 186 3 ?_
 dsimp only
 refine Rt ?_;repeat(refine aC hne ?_;refine Rt ?_)
 by_cases k0:kind=0
 ·subst k0;rw[if_pos rfl] at hF;refine Rr ?_;exact wF (pid:=0) rfl (by rw[hF]) (by rw[hF]) (.same _ (.il' (aS _))) (by rw[hF];rfl) (by rw[hF])
 ·rw[if_neg k0] at hF;rw[show (kind == 0)=false by simpa using k0];refine Rr ?_;by_cases k3:kind=3
  ·subst k3;rw[if_pos rfl] at hF;have hpa:=hpa rfl;rw[←hF] at hpa;refine Rt ?_;refine tK hpa rfl ?_ (.cons (.agg' (.cons nA .nil)) (.cons hnn (.cons np (.cons nn .nil))));clear hF hpa hSi;obtain⟨⟨v1,v2,v3,v4⟩,u,st,sp⟩:=F;refine Rr ?_;exact u5 (rid:=4) rfl rfl rfl rfl rfl rfl
  ·rw[if_neg k3] at hF;rw[show (kind == 3)=false by simpa using k3];refine Rr ?_;by_cases k4:kind=4
   ·subst k4;rw[if_pos rfl] at hF;have hb4:=(hbi rfl).1;have hb5:=(hbi rfl).2.1;obtain⟨c1,c2,c3⟩:=hkI 0 om om;have e0:(aT kids)[(0:Int).toNat]? = some (.int .i64 (bB ⟨4,name,lo,hi',ws,lbs,vals,kids,.mk vk vn vs vks⟩ 0:Int)):=by rw[bF,c3];rfl
    refine Rt ?_;repeat(refine aC e0 ?_;refine Rt ?_)
    generalize hk0e:bB ⟨4,name,lo,hi',ws,lbs,vals,kids,.mk vk vn vs vks⟩ 0=q0 at *;have hme:=fun hs=>(hmem q0 a0 om hs).2 (hbi rfl).2.2.1
    rw[(hbi rfl).2.2.2] at hme;have hbd0:=hbd q0 a0 ha;refine tK (ih q0 a0 om om ha) rfl ?_ (.cons (.agg' (.cons nA .nil)) (.cons nn (.cons np (.cons nn .nil))));generalize aZ A p f q0 a0=R0 at *;obtain⟨⟨v1,v2,v3,v4⟩,u,st,sp⟩:=R0;simp only at hF hme hbd0 ⊢;refine Rt ?_;by_cases hst:st = -1
    ·subst hst;rw[if_pos rfl] at hF;obtain⟨w,fq,w1,w2⟩:=jC hsrt (hme rfl);have hfv1:=hfv (.mk v1 v2 v3 v4);rw[fq] at hF hfv1;simp only at hF hfv1;obtain⟨d1,d2,d3⟩:=hkI ((w+1:Nat):Int) om om;generalize bB ⟨4,name,lo,hi',ws,lbs,vals,kids,.mk vk vn vs vks⟩ ((w+1:Nat):Int)=q1 at *;have e1:(aT kids)[((w+1:Nat):Int).toNat]? = some (.int .i64 (q1:Int)):=by rw[bF,d3];rfl
     have hw1:IntKind.i64.wrap ((w:Int)+1)=((w+1:Nat):Int):=w64 om ⟨om,om⟩;have hw2:IntKind.i64.wrap ((a0:Int)+(u:Int))=((a0+u:Nat):Int):=by rw[cK ⟨om,om⟩];omega
     refine Rr ?_;refine hfv1.go ?_ (.cons (.il' (aS _)) (.cons (.agg' (.cons nn (.cons nn (.cons nn (.cons (.il' (aS _)) .nil))))) .nil)) nn;refine Rt ?_;rw[hw1];refine Rt ?_;repeat(refine aC e1 ?_;refine Rt ?_)
     rw[hw2];have hbd1:=hbd q1 (a0+u) hbd0;have hwu:∀ru:Nat,a0+u+ru<=p.length->IntKind.i64.wrap ((u:Int)+(ru:Int))=((u+ru:Nat):Int):=fun ru hru=>by rw[cK ⟨om,om⟩];omega
     refine tK (ih q1 (a0+u) om om hbd0) rfl ?_ (.cons (.agg' (.cons nA .nil)) (.cons nn (.cons np (.cons nn .nil))));generalize aZ A p f q1 (a0+u)=R1 at *;obtain⟨⟨u1,u2,u3,u4⟩,ru,rst,rsp⟩:=R1;simp only at hF hbd1 ⊢;have hwu:=hwu ru hbd1;rw[hF] at hSi;simp only[List.length_append] at hSi;have ls:=eQ sp;have lr:=eQ rsp;have htk:List.take rsp.length (List.drop 0 (c7 rsp))=c7 rsp:=by rw[List.drop_zero,List.take_of_length_le om]
     refine Rt ?_;repeat(refine aC e1 ?_;refine Rt ?_)
     rw[hwu];refine aP (Fy om) ?_;rw[htk];refine Rr ?_;refine aP (bV rfl rfl om om) ?_;refine Rt ?_;repeat(refine aC e1 ?_;refine Rt ?_)
     exact u5 (rid:=47) rfl (by rw[hF,fX]) (by rw[hF,lr];simp) (by rw[hF]) (by rw[hF]) (by rw[hF])
    ·rw[if_neg hst] at hF;rw[show (st != -1)=true by simpa using hst];rw[hF];refine Rr ?_;exact u5 (rid:=14) rfl rfl rfl rfl rfl rfl
   ·rw[if_neg k4] at hF;rw[show (kind == 4)=false by simpa using k4];refine Rr ?_;have lp:=aD p;have d1:decide ((a0:Int)≥((aT p).length:Int))=decide (p.length<=a0):=by rw[lp];exact decide_eq_decide.2 om
    rw[d1];by_cases hpl:p.length<=a0
    ·rw[if_pos hpl] at hF;rw[decide_eq_true hpl];refine Rr ?_;exact wF (pid:=0) (ks:=[]) rfl (by rw[hF]) (by rw[hF];rfl) (.nil 4) (by rw[hF];rfl) (by rw[hF])
    ·rw[if_neg hpl] at hF;have hpe:=hpe a0 om;have hpc:=hpc a0;rw[decide_eq_false hpl];generalize p.getD a0 0=c at *;refine Rt ?_;repeat(refine aC hpe ?_;refine Rt ?_)
     by_cases hc0:c<0
     ·rw[if_pos (.inl hc0)] at hF;rw[decide_eq_true hc0];refine Rr ?_;exact wF (pid:=0) (ks:=[]) rfl (by rw[hF]) (by rw[hF];rfl) (.nil 4) (by rw[hF];rfl) (by rw[hF])
     ·rw[decide_eq_false hc0];have hop2:=hop;generalize fY ⟨kind,name,lo,hi',ws,lbs,vals,kids,.mk vk vn vs vks⟩=o at *;refine Rr ?_;refine hop2.go ?_ (.cons hnn .nil) nn;refine Rr ?_;have d2:decide (c≥o)=decide (o<=c):=decide_eq_decide.2 om;rw[d2];by_cases hco:o<=c
      ·rw[if_pos (.inr hco)] at hF;rw[decide_eq_true hco];refine Rr ?_;exact wF (pid:=0) (ks:=[]) rfl (by rw[hF]) (by rw[hF];rfl) (.nil 4) (by rw[hF];rfl) (by rw[hF])
      ·rw[if_neg (show ¬(c<0∨o<=c) by omega)] at hF;rw[decide_eq_false hco];by_cases k1:kind=1
       ·subst k1;rw[if_pos rfl] at hF hon;have hn:=hnum rfl;have hw:IntKind.i64.wrap (lo+c)=lo+c:=cK ⟨by have:=hn.1;omega,om⟩;refine Rr ?_;rw[hw];exact wF (pid:=0) (ks:=[]) rfl (by rw[hF]) (by rw[hF]) (.nil 4) (by rw[hF];rfl) (by rw[hF])
       ·rw[if_neg k1] at hF hon;refine Rr ?_;rw[show (kind == 1)=false by simpa using k1];obtain⟨d1,d2,d3⟩:=hkI c om om;generalize bB ⟨kind,name,lo,hi',ws,lbs,vals,kids,.mk vk vn vs vks⟩ c=q1 at *;have e1:(aT kids)[c.toNat]? = some (.int .i64 (q1:Int)):=by rw[bF,d3];rfl
        have hw2:IntKind.i64.wrap ((a0:Int)+1)=((a0+1:Nat):Int):=w64 om ⟨om,om⟩;refine Rt ?_;repeat(refine aC e1 ?_;refine Rt ?_)
        rw[decide_eq_true (show 0<=c by omega)];refine Rt ?_;repeat(refine aC e1 ?_;refine Rt ?_)
        rw[hw2];have hbd1:=hbd q1 (a0+1) om;refine tK (ih q1 (a0+1) om om om) rfl ?_ (.cons (.agg' (.cons nA .nil)) (.cons nn (.cons np (.cons nn .nil))));generalize aZ A p f q1 (a0+1)=R1 at *;obtain⟨⟨u1,u2,u3,u4⟩,ru,rst,rsp⟩:=R1;simp only at hF hbd1 ⊢;have hwu:IntKind.i64.wrap ((ru:Int)+1)=((ru+1:Nat):Int):=w64 om ⟨om,om⟩;refine Rt ?_;repeat(refine aC e1 ?_;refine Rt ?_)
        rw[hwu];exact u5 (rid:=16) rfl (by rw[hF]) (by rw[hF]) (by rw[hF]) (by rw[hF]) (by rw[hF])
theorem Fg{A:List Nd}(h:VT A){p:List Int}(hp:p.length<=1000000000)(hpi:∀x∈p,i64 x)(hS:∀f i a0,i<f->i<A.length->(aZ A p f i a0).spans.length<=4294967296):∀f,PC A p f
 | 0=>fun i a0 hif _ _=>om
 | f+1=>QN h hp hpi hS f (Fg h hp hpi hS f)
def fV(A:List Nd)(p:List Int):wR:=aZ A p A.length (A.length-1) 0
def fW(p:List Int)(r:wR):wR:=if r.stop = -1/\r.used<p.length then⟨r.val,r.used,-2,r.spans⟩ else r
theorem BZ(A:List Nd)(p:List Int):(fV A p).used<=p.length:=by
 have:=(v8 (A:=A) p A.length (A.length-1) 0 (Nat.zero_le _)).1;unfold fV;omega
structure J3(A:List Nd)(p:List Int):Prop where
 tree:VT A
 len:p.length<=1000000
 i64:∀x∈p,i64 x
 cnt:∀f i a0,i<f->i<A.length->(aZ A p f i a0).spans.length<=4294967296
theorem LA{A:List Nd}{p:List Int}(h:J3 A p):aG prog [] 45 [.agg [.il 12 (aW A)],.il 1 (aT p)] [] 0 (OF (fW p (fV A p))):=by
 have hp:=h.tree.pos;have hl:=h.tree.tin.len;have hpl:=h.len;have hR:=Fg h.tree om h.i64 h.cnt A.length (A.length-1) 0 om om (Nat.zero_le _);have hu:=BZ A p;have nA:NN (.il 12 (aW A)):=.il' (aU A);have np:NN (.il 1 (aT p)):=.il' (aQ p);have hw:IntKind.i64.wrap (((aW A).length:Int)-1)=((A.length-1:Nat):Int):=by rw[bO,cK ⟨om,om⟩];omega
 have lp:=aD p;rw[show aZ A p A.length (A.length-1) 0=fV A p from rfl] at hR;obtain⟨F,hF⟩:∃F,F=fW p (fV A p):=⟨_,rfl⟩
 rw[←hF];unfold fW at hF;generalize fV A p=R at *;obtain⟨⟨v1,v2,v3,v4⟩,u,st,sp⟩:=R;simp only at hF hu;refine aM bG func45 rfl ?_;refine Rr ?_;rw[hw];refine tK hR rfl ?_ (.cons (.agg' (.cons nA .nil)) (.cons nn (.cons np (.cons nn .nil))));refine Rr ?_;by_cases hst:st = -1
 ·subst hst;refine Rr ?_;have d1:decide ((u:Int)<((aT p).length:Int))=decide (u<p.length):=by rw[lp];exact decide_eq_decide.2 om
  rw[d1];by_cases hup:u<p.length
  ·rw[if_pos ⟨rfl,hup⟩] at hF;rw[decide_eq_true hup];refine Rr ?_;exact u5 (rid:=2) rfl (by rw[hF]) (by rw[hF]) (by rw[hF]) (by rw[hF]) (by rw[hF])
  ·rw[if_neg (fun e=>hup e.2)] at hF;rw[decide_eq_false hup];refine Rr ?_;exact u5 (rid:=2) rfl (by rw[hF]) (by rw[hF]) (by rw[hF]) (by rw[hF]) (by rw[hF])
 ·rw[if_neg (fun e=>hst e.1)] at hF;rw[show (st == -1)=false by simpa using hst];refine Rr ?_;exact u5 (rid:=2) rfl (by rw[hF]) (by rw[hF]) (by rw[hF]) (by rw[hF]) (by rw[hF])
set_option maxHeartbeats 8000000
theorem N3(ns:List Nd)(n:Nat)(hn:n<=ns.length)(hl:ns.length<=100000)(hg:∀(i:Nat) (x:Nd),i<n->ns[i]? = some x->gW i x) :
  aG prog [] 111 [.agg [.il 12 (aW ns)],.int .i64 n] [] 0 fun r m k=>r = .sl 0 0 n/\m=[(0,.row 166 2 (Go.Ax.encLs (aL (ns.take n))))]/\k=1:=by
 refine aM bG func111 rfl ?_;refine Rr ?_;refine a9.ph 166 2 ?_;refine a9.at bG (fun i:Nat=>i<=n)
  (fun i=>⟨[(1,.int .i64 n),(2,.ptr 1 0 0),(5,.sl 2 0 i),(6,.int .i64 i)],[(1,.row 49 1 [.agg [.il 12 (aW ns)]]),(2,.row 166 2 (Go.Ax.encLs (aL (ns.take i))))],3,23⟩)
  (fun i=>n-i) 0 [(0,1),(1,2)] (by simp)
  (aE _ rfl ⟨aJ 0 (.cons (.agg' (.cons (.il' (aU _)) .nil)) .nil),aJ 1 .nil,trivial⟩ ⟨aF,aK,⟨_,rfl,.nslk 1 2 _ rfl rfl⟩,aF,trivial⟩) ?_
 intro i hi;refine Rr ?_;refine aH (fun h=>?_) (fun h=>?_)
 ·have hin:i<n:=by simp at h;omega
  obtain⟨x,hx1,hx2,ex,bx⟩:=vT (l:=ns) (k:=i) (n:=ns.length) om rfl;have ex:(aW ns)[((i:Nat):Int).toNat]? = some (cH x):=by rw[Nat.zero_add] at ex;exact ex
  have hgx:=hg i x hin hx1;have htl:(aL (ns.take i)).length=i:=by rw[dM];simp;omega
  have hL:=M8 i x (aL (ns.take i)) hgx htl.symm (gU _ fun j y hy=>by
   have hj:=(List.getElem?_eq_some_iff.1 hy).1;rw[List.getElem?_take,if_pos (by simp at hj;omega)] at hy;exact hg j y (by simp at hj;omega) hy)
  have hnx:aL (ns.take (i+1))=aL (ns.take i)++[cR x (aL (ns.take i))]:=by rw[List.take_succ_eq_append_getElem om,hx2,gB]
  have hxn:=a6 x;have hxc:(cH x).cells.length=12:=by obtain⟨kind,name,lo,hi,ws,ls,vals,kids,⟨vk,vn,vs,vks⟩⟩:=x;rfl
  generalize cR x (aL (ns.take i))=nl at hL hnx;obtain⟨bs,hbs⟩:∃bs,bs=aL (ns.take i):=⟨_,rfl⟩
  rw[←hbs] at hL hnx htl ⊢;obtain⟨kind,name,lo,hi,ws,ls,vals,kids,⟨vk,vn,vs,vks⟩⟩:=x;refine Rr ?_;repeat((first|refine aP bx ?_|refine aC ex ?_);refine Rr ?_)
  refine aG.use1 bG hL 2 rfl (Go.Ax.encLs_nn bs) (.cons (.same _ hxn) (.cons (.slE rfl htl.symm) .nil)) ?_;rintro r m k ⟨rfl,rfl⟩;refine⟨_,rfl,k7 _,Go.Ax.encLs_nn bs, ?_⟩;refine Rr ?_;refine aP (bV rfl rfl (by rw[Go.Ax.encLs_length,htl]) (by simp;omega)) ?_;refine Rr ?_;exact .mk (i+1) [(1,1),(4,2)] om
   (aE _ rfl ⟨aJ 1 (.cons (.agg' (.cons (.il' (aU _)) .nil)) .nil),⟨4,_,rfl,rfl,.eq (Go.Ax.encLs_nn _) (by rw[hnx];simp[Go.Ax.encLs])⟩,trivial⟩ ⟨aF,aK,⟨_,rfl,.slE rfl (by simp)⟩,⟨_,rfl,.w64 om ⟨om,om⟩⟩,trivial⟩) om
 ·have hin:i=n:=by simp at h;omega
  subst hin;refine Rr ?_;exact bN (r':=.sl 0 0 i) (n':=1) (m':=[(0,.row 166 2 (Go.Ax.encLs (aL (ns.take i))))]) [(2,0)] rfl ⟨aJ 2 (Go.Ax.encLs_nn _),trivial⟩ (.sl 2 0 0 _ rfl) ⟨rfl,rfl,rfl⟩
theorem MV(ns:List Nd)(i:Nat)(hi:i<ns.length)(hl:ns.length<=100000)(hg:∀(j:Nat) (x:Nd),j<i+1->ns[j]? = some x->gW j x) :
  aG prog [] 66 [.agg [.il 12 (aW ns)],.int .i64 i] [] 0 fun r m k=>r = .tup [.il 4 (aO (cT (aL (ns.take (i+1))) i).vals),.bool (!(cT (aL (ns.take (i+1))) i).many)]/\m=[]/\k=0:=by
 have hL:=N3 ns (i+1) om hl hg;have hw:IntKind.i64.wrap ((i:Int)+1)=((i+1:Nat):Int):=w64 om ⟨om,om⟩;have hat:=Bx hi;have hlen:(aL (ns.take (i+1))).length=i+1:=by rw[dM];simp;omega
 generalize cT (aL (ns.take (i+1))) i=b at hat ⊢;generalize aL (ns.take (i+1))=bs at hL hat hlen;obtain⟨bv,bm⟩:=b;have e2:(Go.Ax.encLs bs)[0+((i:Nat):Int).toNat]? = some (kE ⟨bv,bm⟩):=by rw[Nat.zero_add,Int.toNat_natCast,Go.Ax.encLs_get,hat];rfl
 have b2:Nat.blt ((i:Nat):Int).toNat (i+1)=true:=Nat.ble_eq_true_of_le (by simp);refine aM bG func66 rfl ?_;refine Rr ?_;rw[hw];refine aG.useN bG [] hL rfl (.cons (.same _ (.agg' (.cons (.il' (aU _)) .nil))) (.s .nil)) trivial rfl ?_;rintro r m k ⟨rfl,rfl,rfl⟩;refine⟨[(0,2)],.sl 2 0 (i+1),[(2,.row 166 2 (Go.Ax.encLs bs))],3,.sl 0 2 0 _ rfl,⟨aJ 0 (Go.Ax.encLs_nn _),trivial⟩,rfl, ?_⟩;refine Rr ?_;repeat((first|refine aX ?_|refine aP b2 ?_|refine aC e2 ?_);refine Rr ?_)
 exact aB nn ⟨rfl,rfl,rfl⟩
theorem gO(ns:List Nd)(x:Nd)(i:Nat)(hi:i<=ns.length)(hl:ns.length<=100000)(hg:∀(j:Nat) (x:Nd),j<i->ns[j]? = some x->gW j x)(hx:qG x)(hk0:0<x.kids.length)(hk:∀(j:Nat) (k:Int),x.kids[j]? = some k->0<=k/\k<i) :
  a8 prog [] 70 [.agg [.il 12 (aW ns)],cH x] (.int .i64 (eF ns x)):=by
 obtain⟨q,hq⟩:∃q,x.kids[0]? = some q:=⟨x.kids[0],List.getElem?_eq_getElem hk0⟩
 obtain⟨q1,q2⟩:=hk 0 q hq;obtain⟨qn,rfl⟩:=Int.eq_ofNat_of_zero_le q1;have hgd:x.kids.getD 0 0=qn:=by rw[List.getD_eq_getElem?_getD,hq];rfl
 have hV:=MV ns qn om hl fun j y hj hy=>hg j y om hy
 have hbl:=o0 (gU (ns.take (qn+1)) fun j y hy=>hg j y (by have:=(fP hy).2;omega) (fP hy).1) qn;have hbe:eF ns x=if (cT (aL (ns.take (qn+1))) qn).many=true then 4 else if dC (cT (aL (ns.take (qn+1))) qn).vals x.values=true then 0 else 1:=by
  unfold eF;simp only[hgd,Int.toNat_natCast]
 rw[hbe];generalize cT (aL (ns.take (qn+1))) qn=b at hV hbl ⊢;obtain⟨bv,bm⟩:=b;simp only at hV hbl ⊢;have hS:=HJ bv x.values om hbl.2;generalize dC bv x.values=sm at hS ⊢;have ek:(aT x.kids)[(0:Int).toNat]? = some (.int .i64 (qn:Int)):=by rw[bF];simp[hq]
 obtain⟨kind,name,lo,hi',ws,ls,vals,kids,⟨vk,vn,vs,vks⟩⟩:=x;simp only at hS ek;refine aM bG func70 rfl ?_;refine Rr ?_;repeat((first|refine aX ?_|refine aC ek ?_);refine Rr ?_)
 refine a8.go hV ?_ (.cons (.agg' (.cons (.il' (aU _)) .nil)) (.cons nn .nil));cases bm with
 | true=>
  refine Rr ?_;repeat((first|refine aX ?_|refine aC ek ?_);refine Rr ?_)
  exact aB nn ⟨rfl,rfl,rfl⟩
 | false=>
  refine Rr ?_;repeat((first|refine aX ?_|refine aC ek ?_);refine Rr ?_)
  refine hS.go ?_;cases sm with
  | true=>
   refine Rr ?_;exact aB nn ⟨rfl,rfl,rfl⟩
  | false=>
   refine Rr ?_;exact aB nn ⟨rfl,rfl,rfl⟩
theorem Nf(ns:List Nd)(hl:ns.length<=100000)(ho:∀x∈ns,qG x/\x.values.length<=4294967290) :
  a8 prog [] 44 [.agg [.il 12 (aW ns)]] (.int .i64 (cC ns)):=by
 have hfin:∀(e:Int) (mem:aN) (nx:Nat),e=cC ns->kQ 0 (fun r m n=>r = .int .i64 (cC ns)/\m=[]/\n=0) (.int .i64 e) mem nx:=by
  intro e mem nx he;exact aB nn ⟨by rw[he],rfl,rfl⟩
 refine aM bG func44 rfl ?_;refine Rr ?_;refine aH (fun h=>?_) (fun h=>?_)
 ·have h1:4096<ns.length:=by rw[bO] at h;simp at h;omega
  refine Rr ?_;exact hfin _ _ _ (by unfold cC;rw[if_pos h1])
 ·have h1:¬4096<ns.length:=by rw[bO] at h;simp at h;omega
  have hvt:cC ns=bT [] ns:=by unfold cC;rw[if_neg h1]
  refine Rr ?_;refine a9.ph 3 1 ?_;refine a9.ph 3 1 ?_;refine a9.at bG (fun i:Nat=>i<=ns.length/\bT [] (ns.take i)=0)
   (fun i=>⟨[(1,.ptr 1 0 0),(3,.sl 2 0 i),(4,.sl 3 0 i),(5,.int .i64 i)],[(1,.row 49 1 [.agg [.il 12 (aW ns)]]),(2,.row 3 1 (aT (aY (ns.take i)))),(3,.row 3 1 (aT (b9 (ns.take i))))],4,57⟩)
   (fun i=>ns.length-i) 0 [(0,1),(1,2),(2,3)] ⟨by simp,by simp[bT]⟩
   (aE _ rfl ⟨aJ 0 (.cons (.agg' (.cons (.il' (aU _)) .nil)) .nil),aJ 1 .nil,aJ 2 .nil,trivial⟩ ⟨aK,⟨_,rfl,.nslk 1 2 _ rfl rfl⟩,⟨_,rfl,.nslk 2 3 _ rfl rfl⟩,aF,trivial⟩) ?_
  rintro i ⟨hi,hv0⟩;refine Rr ?_;refine aH (fun h=>?_) (fun h=>?_)
  ·have hin:i<ns.length:=by rw[bO] at h;simp at h;omega
   obtain⟨x,hx1,hx2,ex,bx⟩:=vT (l:=ns) (k:=i) (n:=ns.length) hin rfl;have hxm:=List.mem_of_getElem? hx1;have ex:(aW ns)[((i:Nat):Int).toNat]? = some (cH x):=by rw[Nat.zero_add] at ex;exact ex
   obtain⟨hxo,hxv⟩:=ho x hxm;have hsplit:ns=ns.take i++x::ns.drop (i+1):=by rw[←hx2,←List.drop_eq_getElem_cons hin,List.take_append_drop]
   have hti:(ns.take i).length=i:=by simp;omega
   have htn:ns.take (i+1)=ns.take i++[x]:=by rw[List.take_succ_eq_append_getElem hin,hx2]
   have hgood:=iR (ns.take i) (fun y hy=>(ho y (List.mem_of_mem_take hy)).1) hv0;obtain⟨hls,hss⟩:=gE (ns.take i) hv0;have hll:(aY (ns.take i)).length=i:=by rw[Go.Ax.d8,hti]
   have hsl:(b9 (ns.take i)).length=i:=by rw[iA,hti]
   have hstop:=fun hs=>rX (l:=ns.take i) (r:=ns.drop (i+1)) (x:=x) hv0 hs
   rw[←hsplit] at hstop;have hgo:=eT [] (ns.take i) x hv0;rw[List.nil_append,←htn] at hgo;have hN:=M2 i x om hxo hxv;have hlt:=fR (ns.take i) x;have hst:=iV (ns.take i) x;rw[←htn] at hlt hst;have hse:fS (ns.take i) (aY (ns.take i)) (b9 (ns.take i)) x=if eO i x≠0 then eO i x else if 256<eC (aY (ns.take i)) x∨1024<iY (b9 (ns.take i)) x then 4 else if x.kind=4 then eF (ns.take i) x else 0:=by
    unfold fS;rw[hti]
   have hbnd:(0<x.kids.length/\∀(j:Nat) (k:Int),x.kids[j]? = some k->0<=k/\k<i)->eF (ns.take i) x=eF ns x:=by
    rintro⟨h0,hk⟩;obtain⟨q,hq⟩:∃q,x.kids[0]? = some q:=⟨x.kids[0],List.getElem?_eq_getElem h0⟩
    obtain⟨q1,q2⟩:=hk 0 q hq;have hgd:x.kids.getD 0 0=q:=by rw[List.getD_eq_getElem?_getD,hq];rfl
    unfold eF;simp only[hgd];rw[List.take_take,Nat.min_eq_left om]
   have hxn:=a6 x;obtain⟨ne,hne⟩:∃ne,ne=eO i x:=⟨_,rfl⟩
   rw[←hne] at hN hse;by_cases n0:ne=0
   ·subst n0;have hok:=jP hne.symm;have h4:4<=x.kind->0<x.kids.length:=fun h=>by have:=hok.bind (by have:=hok.kind;omega);omega
    have hL:=Ez (aY (ns.take i)) x hxo om hls (by rw[hll];exact hok.kids) h4 hok.kind;have hS:=Jf (b9 (ns.take i)) x hxo om hss (by rw[hsl];exact hok.kids) h4 hok.kind;have hB:=gO ns x i om hl (fun j y hj hy=>hgood j y (by rw[List.getElem?_take,if_pos hj];exact hy)) hxo;rw[if_neg (by simp)] at hse;generalize aY (ns.take i)=lsI at hL hll hlt hse hstop hgo hls ⊢;generalize b9 (ns.take i)=ssI at hS hsl hst hse hstop hgo hss ⊢;generalize eC lsI x=ln at hL hlt hse;generalize iY ssI x=sn at hS hst hse;obtain⟨kind,name,lo,hi',ws,ls,vals,kids,⟨vk,vn,vs,vks⟩⟩:=x;simp only at hse h4 hB hbnd hok;refine Rr ?_;repeat((first|refine aP bx ?_|refine aC ex ?_);refine Rr ?_)
    refine hN.go ?_ (.cons (.int _ _) (.cons hxn .nil));refine Rr ?_;refine aG.useApp bG hL 2 rfl (aQ _) (.cons (.slE rfl hll.symm) (.cons (.same _ hxn) .nil)) ?_;rintro len ys ⟨rfl,rfl⟩;refine Rr ?_;refine aG.useApp bG hS 3 rfl (aQ _) (.cons (.slE rfl hsl.symm) (.cons (.same _ hxn) .nil)) ?_;rintro len ys ⟨rfl,rfl⟩;have el:(aT (lsI++[ln]))[0+((i:Nat):Int).toNat]? = some (.int .i64 ln):=by simp[aT,hll]
    have bl:Nat.blt ((i:Nat):Int).toNat (lsI.length+1)=true:=Nat.ble_eq_true_of_le (by simp;omega);have es:(aT (ssI++[sn]))[0+((i:Nat):Int).toNat]? = some (.int .i64 sn):=by simp[aT,hsl]
    have bs':Nat.blt ((i:Nat):Int).toNat (ssI.length+1)=true:=Nat.ble_eq_true_of_le (by simp;omega);refine Rr ?_;repeat((first|refine aP bl ?_|refine aC el ?_);refine Rr ?_)
    refine aH (fun h2=>?_) (fun h2=>?_)
    ·have h3:256<ln:=by simpa using h2
     rw[h2];rw[if_pos (.inl h3)] at hse;have hres:=hstop (by rw[hse];omega);refine Rr ?_;exact hfin _ _ _ (by rw[hvt,hres,hse])
    ·have h3:¬256<ln:=by simpa using h2
     rw[h2];refine Rr ?_;repeat((first|refine aP bs' ?_|refine aC es ?_);refine Rr ?_)
     refine aH (fun h4'=>?_) (fun h4'=>?_)
     ·have h5:1024<sn:=by simpa using h4'
      rw[h4'];rw[if_pos (.inr h5)] at hse;have hres:=hstop (by rw[hse];omega);refine Rr ?_;exact hfin _ _ _ (by rw[hvt,hres,hse])
     ·have h5:¬1024<sn:=by simpa using h4'
      rw[h4'];rw[if_neg om] at hse;by_cases k4:kind=4
      ·rw[if_pos k4] at hse;have h40:=h4 om;have hB:=hB h40 hok.kids;rw[hbnd ⟨h40,hok.kids⟩] at hse;generalize eF ns ⟨kind,name,lo,hi',ws,ls,vals,kids,.mk vk vn vs vks⟩=be at hB hse;subst k4;refine Rr ?_;refine hB.go ?_ (.cons (.agg' (.cons (.il' (aU _)) .nil)) (.cons hxn .nil));by_cases be0:be=0
       ·subst be0;rw[hse] at hgo;refine Rr ?_;exact .mk (i+1) [(1,1),(5,2),(6,3)] ⟨om,hgo⟩
         (aE _ rfl ⟨aJ 1 (.cons (.agg' (.cons (.il' (aU _)) .nil)) .nil),⟨5,_,rfl,rfl,.eq (aQ _) (by rw[hlt])⟩,⟨6,_,rfl,rfl,.eq (aQ _) (by rw[hst])⟩,trivial⟩ ⟨aK,⟨_,rfl,.slE rfl (by rw[hll])⟩,⟨_,rfl,.slE rfl (by rw[hsl])⟩,⟨_,rfl,.w64 om ⟨om,om⟩⟩,trivial⟩) om
       ·have d5:(be != 0)=true:=by simpa using be0
        have hres:=hstop (by rw[hse];exact be0);refine Rr ?_;rw[d5];refine Rr ?_;exact hfin _ _ _ (by rw[hvt,hres,hse])
      ·rw[if_neg k4] at hse;have d4:(kind == 4)=false:=by simpa using k4
       rw[hse] at hgo;refine Rr ?_;rw[d4];refine Rr ?_;exact .mk (i+1) [(1,1),(5,2),(6,3)] ⟨om,hgo⟩
        (aE _ rfl ⟨aJ 1 (.cons (.agg' (.cons (.il' (aU _)) .nil)) .nil),⟨5,_,rfl,rfl,.eq (aQ _) (by rw[hlt])⟩,⟨6,_,rfl,rfl,.eq (aQ _) (by rw[hst])⟩,trivial⟩ ⟨aK,⟨_,rfl,.slE rfl (by rw[hll])⟩,⟨_,rfl,.slE rfl (by rw[hsl])⟩,⟨_,rfl,.w64 om ⟨om,om⟩⟩,trivial⟩) om
   ·have d1:(ne != 0)=true:=by simpa using n0
    have hse':=hse;rw[if_pos n0] at hse';have hres:=hstop (by rw[hse'];exact n0);rw[hse'] at hres;obtain⟨kind,name,lo,hi',ws,ls,vals,kids,⟨vk,vn,vs,vks⟩⟩:=x;refine Rr ?_;repeat((first|refine aP bx ?_|refine aC ex ?_);refine Rr ?_)
    refine hN.go ?_ (.cons (.int _ _) (.cons hxn .nil));refine Rr ?_;rw[d1];refine Rr ?_;exact hfin _ _ _ (by rw[hvt,hres])
  ·have hin:i=ns.length:=by rw[bO] at h;simp at h;omega
   subst hin;rw[List.take_length] at hv0;refine Rr ?_;exact hfin _ _ _ (by rw[hvt,hv0])
set_option maxHeartbeats 16000000
structure Oj(A:List Nd)(p:List Int):Prop where
 tin:qY A
 len:p.length<=1000000
 i64:∀x∈p,i64 x
 cnt:VT A->∀f i a0,i<f->i<A.length->(aZ A p f i a0).spans.length<=4294967296
theorem Oj.pth{A:List Nd}{p:List Int}(h:Oj A p)(hv:VT A):J3 A p:=⟨hv,h.len,h.i64,h.cnt hv⟩
theorem Ev{A:List Nd}(h:qY A):a8 prog [] 44 [.agg [.il 12 (aW A)]] (.int .i64 (cC A)):=
 Nf A (by have:=h.len;omega) fun x hx=>⟨h.ok x hx,by have:=h.vlen x hx;omega⟩
def fD(A:List Nd)(p:List Int):Int:=if cC A≠0 then cC A else if A.length=0 then 11 else if (fW p (fV A p)).stop = -1 then 0 else 11
def eI(A:List Nd)(p:List Int):a7:=if fD A p=0 then(fV A p).val else vZ
def Jk(A:List Nd)(p:List Int):List Sp:=if fD A p=0 then(fV A p).spans else []
theorem xK(p:List Int)(r:wR):(fW p r).val=r.val/\(fW p r).spans=r.spans:=by
 unfold fW;split<;>exact⟨rfl,rfl⟩
theorem Me{A:List Nd}{p:List Int}(h:Oj A p):a8 prog [] 50 [.agg [.il 12 (aW A)],.il 1 (aT p)] (.tup [bK (eI A p),.int .i64 (fD A p)]):=by
 have hv:=Ev h.tin;have nA:NN (.il 12 (aW A)):=.il' (aU A);have np:NN (.il 1 (aT p)):=.il' (aQ p);have lA:=bO A;have hE:fD A p=if cC A≠0 then cC A else if A.length=0 then 11 else if (fW p (fV A p)).stop = -1 then 0 else 11:=rfl
 have hV:eI A p=if fD A p=0 then(fW p (fV A p)).val else vZ:=by rw[(xK _ _).1];rfl
 have hR:=fun(e:cC A=0) (hp:0<A.length)=>LA (h.pth ⟨h.tin,e,hp⟩)
 generalize eI A p=V at *;generalize fD A p=E at *;generalize cC A=vl at *;refine aM bG func50 rfl ?_;refine Rr ?_;refine hv.go ?_ (.cons (.agg' (.cons nA .nil)) .nil) nn;refine Rr ?_;refine aH (fun hb=>?_) (fun hb=>?_)
 ·have h0:vl≠0:=by simpa using hb
  rw[if_pos h0] at hE;rw[if_neg om] at hV;rw[hV,hE];refine Rr ?_;exact bU (r':=.tup [bK vZ,.int .i64 vl]) (.tup' (.cons (.agg' (.s (.s (.s (.cons (.nil 4) .nil))))) (.s .nil))) ⟨rfl,rfl,rfl⟩
 ·have h0:vl=0:=by simpa using hb
  subst h0;have hR:=hR rfl;rw[if_neg (by simp)] at hE;refine Rr ?_;refine aH (fun hb=>?_) (fun hb=>?_)
  ·have h0:A.length=0:=by rw[lA] at hb;simpa using hb
   rw[if_pos h0] at hE;rw[if_neg om] at hV;rw[hV,hE];refine Rr ?_;exact bU (r':=.tup [bK vZ,.int .i64 11]) (.tup' (.cons (.agg' (.s (.s (.s (.cons (.nil 4) .nil))))) (.s .nil))) ⟨rfl,rfl,rfl⟩
  ·have h0:A.length≠0:=by rw[lA] at hb;simpa using hb
   have hR:=hR om;rw[if_neg h0] at hE;generalize fW p (fV A p)=R at *;obtain⟨⟨v1,v2,v3,v4⟩,u,st,sp⟩:=R;simp only at hE hV;refine Rr ?_;refine tK hR rfl ?_ (.cons (.agg' (.cons nA .nil)) (.cons np .nil));refine Rr ?_;by_cases hst:st = -1
   ·subst hst;rw[if_pos rfl] at hE;rw[hE,if_pos rfl] at hV;rw[hV,hE];refine Rr ?_;exact bU (r':=.tup [bK (.mk v1 v2 v3 v4),.int .i64 0]) (.same _ (.tup' (.cons (bM (.mk v1 v2 v3 v4)) (.cons nn .nil)))) ⟨rfl,rfl,rfl⟩
   ·rw[if_neg hst] at hE;rw[if_neg om] at hV;rw[show (st != -1)=true by simpa using hst];rw[hV,hE];refine Rr ?_;exact bU (r':=.tup [bK vZ,.int .i64 11]) (.tup' (.cons (.agg' (.s (.s (.s (.cons (.nil 4) .nil))))) (.s .nil))) ⟨rfl,rfl,rfl⟩
def G0(A:List Nd):Int:=if cC A≠0 then cC A else if A.length=0 then 10 else 0
def Bj(A:List Nd)(raw:List Int):List Int:=if G0 A=0 then kG A raw else []
theorem EA{A:List Nd}(h:VT A)(raw:List Int){m:Nat}(hm:m<=(kG A raw).length) :
  (m<(kG A raw).length->∃n,n<A.length/\(fW ((kG A raw).take m) (fV A ((kG A raw).take m))).stop=(n:Int)/\(kG A raw)[m]? = some (dU raw (aI A n) m)) /\
  (m=(kG A raw).length->(fW ((kG A raw).take m) (fV A ((kG A raw).take m))).stop = -1):=by
 have hp:=h.pos;constructor
 ·intro hlt;obtain⟨n,n1,n2,n3⟩:=Ky h raw ((kG A raw).take m) A.length (A.length-1) 0 m om om hlt (by rw[List.drop_zero];rfl);have hs:(fW ((kG A raw).take m) (fV A ((kG A raw).take m))).stop=(n:Int):=by
   have e:(fV A ((kG A raw).take m)).stop=(n:Int):=n2;unfold fW;rw[if_neg (fun e2=>by rw[e] at e2;omega),e]
  exact⟨n,n1,hs,by rw[Nat.zero_add] at n3;exact n3⟩
 ·intro he;have ha:=Ei h raw (kG A raw) A.length (A.length-1) 0 [] om om (by rw[List.drop_zero,List.append_nil];rfl);rw[he,List.take_length];unfold fW;have e1:(fV A (kG A raw)).stop = -1:=ha.stop;have e2:(fV A (kG A raw)).used=(kG A raw).length:=ha.used;rw[if_neg (fun e=>by rw[e2] at e;omega),e1]
theorem KQ{A:List Nd}(h:VT A)(raw:List Int)(hr:∀x∈raw,i64 x):∀x∈kG A raw,i64 x:=fun x hx=>by
 obtain⟨m,hm⟩:=List.getElem?_of_mem hx;have hml:=(List.getElem?_eq_some_iff.1 hm).1;obtain⟨n,-,-,h3⟩:=(EA h raw (m:=m) om).1 hml;rw[hm] at h3;cases h3;unfold dU;split
 ·rename_i hq;have:=hr _ (List.mem_of_getElem? (List.getElem?_eq_getElem hq));rw[List.getD_eq_getElem?_getD,List.getElem?_eq_getElem hq];obtain⟨a,b⟩:=this;simp only[Option.getD_some];exact⟨om,om⟩
 ·exact⟨om,om⟩
theorem Qv{mem:aN}{σ:List (Nat × Nat)}{id:Nat}{t:TypeId}{sz:Nat}{c v:AV}(h1:lk mem id=some (.row t sz [.agg [c]]))(h2:lk σ id=none)(hc:Cv mem σ c v):Cv mem σ (.ptr id 0 0) (.ip (.agg [v])):=
 .fzp id 0 0 t sz _ _ _ h1 h2 rfl (Nat.le_refl _) fun k c c' h1 h2=>by
  rw[Nat.zero_add] at h1;exact(jL.cons hc .nil).2 k c c' h1 h2
def Qy(stop:Int):AV:=.agg [.junk,.junk,.junk,.junk,.junk,.int .i64 stop,.junk]
theorem GU(s:Int):Sc (Qy s):=.agg _ fun j c h=>by
 match j,h with
 | 0,h=>cases h;exact .junk
 | 1,h=>cases h;exact .junk
 | 2,h=>cases h;exact .junk
 | 3,h=>cases h;exact .junk
 | 4,h=>cases h;exact .junk
 | 5,h=>cases h;exact .int _ _
 | 6,h=>cases h;exact .junk
theorem G5{v:a7}{u:Nat}{st:Int}{rid n:Nat}{mem:aN}:Cv mem [] (Cl v u st rid n) (Qy st):=by
 obtain⟨v1,v2,v3,v4⟩:=v;exact .agg' (.cons (.junk _) (.cons (.junk _) (.cons (.junk _) (.cons (.junk _) (.cons (.junk _) (.s (.cons (.junk _) .nil)))))))
theorem Mu{A:List Nd}(hin:qY A)(hS:VT A->∀p f i a0,i<f->i<A.length->(aZ A p f i a0).spans.length<=4294967296)(raw:List Int)(hr:raw.length<=17592186044416)(hri:∀x∈raw,i64 x) :
  a8 prog [] 18 [.agg [.il 12 (aW A)],.il 1 (aT raw)] (.tup [.il 1 (aT (Bj A raw)),.int .i64 (G0 A)]):=by
 have hv:=Ev hin;have nA:NN (.il 12 (aW A)):=.il' (aU A);have nr:NN (.il 1 (aT raw)):=.il' (aQ raw);have lA:=bO A;have lr:=aD raw;have hE:G0 A=if cC A≠0 then cC A else if A.length=0 then 10 else 0:=rfl
 have hV:Bj A raw=if G0 A=0 then kG A raw else []:=rfl
 have hvt:=fun(e:cC A=0) (hp:0<A.length)=>(⟨hin,e,hp⟩:VT A)
 generalize Bj A raw=V at *;generalize G0 A=E at *;generalize cC A=vl at *;refine aM bG func18 rfl ?_;refine Rr ?_;refine hv.go ?_ (.cons (.agg' (.cons nA .nil)) .nil) nn;refine Rr ?_;refine aH (fun hb=>?_) (fun hb=>?_)
 ·have h0:vl≠0:=by simpa using hb
  rw[if_pos h0] at hE;rw[if_neg om] at hV;rw[hV,hE];refine Rr ?_;exact bU (r':=.tup [.il 1 (aT []),.int .i64 vl]) (.tup' (.cons (.nil 1) (.s .nil))) ⟨rfl,rfl,rfl⟩
 ·have h0:vl=0:=by simpa using hb
  subst h0;rw[if_neg (by simp)] at hE;refine Rr ?_;refine aH (fun hb=>?_) (fun hb=>?_)
  ·have h0:A.length=0:=by rw[lA] at hb;simpa using hb
   rw[if_pos h0] at hE;rw[if_neg om] at hV;rw[hV,hE];refine Rr ?_;exact bU (r':=.tup [.il 1 (aT []),.int .i64 10]) (.tup' (.cons (.nil 1) (.s .nil))) ⟨rfl,rfl,rfl⟩
  ·have h0:A.length≠0:=by rw[lA] at hb;simpa using hb
   rw[if_neg h0] at hE;rw[if_pos hE] at hV;have hT:=hvt rfl om;have hfl:=Jp hT raw;have hst:=fun m (hm:m<=(kG A raw).length)=>EA hT raw hm
   have hpi:=KQ hT raw hri;have hRd:=fun(m:Nat)=>LA (A:=A) (p:=(kG A raw).take m) ⟨hT,by rw[List.length_take];omega,fun x hx=>hpi x (List.mem_of_mem_take hx),hS hT _⟩
   rw[hV,hE];clear hvt hV hE hb;obtain⟨Q,hQ⟩:∃Q,Q=kG A raw:=⟨_,rfl⟩
   rw[←hQ] at hfl hst hpi hRd ⊢;obtain⟨S,hSe⟩:∃S:Nat->wR,S=fun m=>fW (Q.take m) (fV A (Q.take m)):=⟨_,rfl⟩
   have hst:∀m,m<=Q.length->(m<Q.length->∃n,n<A.length/\(S m).stop=(n:Int)/\Q[m]? = some (dU raw (aI A n) m))/\(m=Q.length->(S m).stop = -1):=by rw[hSe];exact hst
   have hRd:∀m,aG prog [] 45 [.agg [.il 12 (aW A)],.il 1 (aT (Q.take m))] [] 0 (OF (S m)):=by rw[hSe];exact hRd
   clear hSe hQ hS;have hR0:=hRd 0;rw[List.take_zero] at hR0;refine Rr ?_;refine aG.lendJ bG hR0 (.cons (.same _ (.agg' (.cons nA .nil))) (.cons (.nil 1) .nil)) ?_;rintro r m k ⟨rfl,rfl,rfl⟩;refine⟨_,G5,GU _, ?_⟩;refine Rr ?_;refine a9.ph 3 1 ?_;refine a9.at bG (fun m:Nat=>m<=Q.length)
    (fun m=>⟨[(1,.il 1 (aT raw)),(2,.ip (.agg [.il 12 (aW A)])),(7,.sl 1 0 m),(8,.ptr 0 0 0)],[(0,.row 97 7 [Qy (S m).stop]),(1,.row 3 1 (aT (Q.take m)))],2,53⟩) (fun m=>Q.length-m) 0 [(1,0),(2,1)] om
    (aE _ rfl ⟨⟨1,_,rfl,rfl,.cons (.agg (.cons (.junk _) (.cons (.junk _) (.cons (.junk _) (.cons (.junk _) (.cons (.junk _) (.s (.cons (.junk _) .nil)))))))) .nil⟩,⟨2,_,rfl,rfl,.nil⟩,trivial⟩
     ⟨aR nr,⟨_,rfl,Qv rfl rfl (.same _ nA)⟩,⟨_,rfl,.nslk 2 1 _ rfl rfl⟩,aK,trivial⟩) ?_
   intro m hm;have hRm:=hRd (m+1);have hme:=(hst m hm).2;have hml:=(hst m hm).1;by_cases hlt:m<Q.length
   ·obtain⟨n,n1,n2,n3⟩:=hml hlt;have hx:=dD n1;have hg:=hT.node hx;have hne:=oL n1;have hnn:=a6 (aI A n);have hop:=Eb (aI A n) (fun _=>hg.node.num);have hoi:0<=fY (aI A n)/\fY (aI A n)<=1099511627776:=by
     have hkl:=hT.tin.klen _ (List.mem_of_getElem? hx);unfold fY;split
     ·have:=cD hg.node.num;omega
     ·omega
    have hcd:dU raw (aI A n) m=if m<raw.length then max 0 (min (raw.getD m 0) (fY (aI A n)-1)) else 0:=rfl
    have htk:Q.take (m+1)=Q.take m++[dU raw (aI A n) m]:=by
     obtain⟨h1,h2⟩:=List.getElem?_eq_some_iff.1 n3;rw[List.take_succ_eq_append_getElem h1,h2]
    have lq:(aT (Q.take m)).length=m:=by rw[aD,List.length_take];omega
    have ltm:(Q.take m).length=m:=by rw[List.length_take];omega
    generalize fY (aI A n)=o at *;generalize dU raw (aI A n) m=c at *;generalize aI A n=x at *;obtain⟨kind,name,lo,hi',ws,lbs,vals,kids,⟨vk,vn,vs,vks⟩⟩:=x;have d1:decide ((m:Int)<((aT raw).length:Int))=decide (m<raw.length):=by rw[lr];exact decide_eq_decide.2 om
    refine Rr ?_;rw[n2,decide_eq_true (show ((n:Nat):Int)≥0 by omega)];refine Rr ?_;rw[d1];by_cases hmr:m<raw.length
    ·have er:=l6 hmr;rw[if_pos hmr,List.getD_eq_getElem?_getD,List.getElem?_eq_getElem hmr] at hcd;simp only[Option.getD_some] at hcd;generalize raw[m]=z at *;have hw:IntKind.i64.wrap (o-1)=o-1:=cK ⟨om,om⟩;rw[decide_eq_true hmr];refine Rt ?_;repeat((first|refine aC er ?_|refine aC hne ?_);refine Rt ?_)
     refine hop.go ?_ (.cons hnn .nil) nn;refine Rt ?_;repeat((first|refine aC er ?_|refine aC hne ?_);refine Rt ?_)
     have hif:(if (if IntKind.i64.wrap (o-1)<z then IntKind.i64.wrap (o-1) else z)>0 then if IntKind.i64.wrap (o-1)<z then IntKind.i64.wrap (o-1) else z else 0)=c:=by
      rw[hw,hcd];split<;>split<;>omega
     rw[hif];refine aP (bV rfl rfl (by rw[lq]) (by simp;omega)) ?_;refine Rr ?_;have hfz:aT (Q.take m)++List.take 1 (List.drop 0 [AV.int .i64 c])=aT (Q.take (m+1)):=by rw[htk];simp[aT]
     refine aG.lendJ bG hRm (.cons (.same _ (.agg' (.cons nA .nil))) (.cons (j9 (id:=19) rfl (by simp;omega) hfz (aQ _)) .nil)) ?_;rintro r k' k2 ⟨rfl,rfl,rfl⟩;refine⟨_,G5,GU _, ?_⟩;refine Rr ?_;exact .mk (m+1) [(0,0),(19,1)] om
      (aE _ rfl ⟨⟨0,_,rfl,rfl,.cons (.agg (.cons (.junk _) (.cons (.junk _) (.cons (.junk _) (.cons (.junk _) (.cons (.junk _) (.s (.cons (.junk _) .nil)))))))) .nil⟩,⟨19,_,rfl,rfl,.eq (aQ _) hfz⟩,trivial⟩
       ⟨aR nr,aR (.ip' (.agg' (.cons nA .nil))),⟨_,rfl,.slE rfl (by simp)⟩,aK,trivial⟩) om
    ·rw[if_neg hmr] at hcd;rw[decide_eq_false hmr];refine Rr ?_;refine aP (bV rfl rfl (by rw[lq]) (by simp;omega)) ?_;refine Rr ?_;have hfz:aT (Q.take m)++List.take 1 (List.drop 0 [AV.int .i64 0])=aT (Q.take (m+1)):=by rw[htk,hcd];simp[aT]
     refine aG.lendJ bG hRm (.cons (.same _ (.agg' (.cons nA .nil))) (.cons (j9 (id:=3) rfl (by simp;omega) hfz (aQ _)) .nil)) ?_;rintro r k' k2 ⟨rfl,rfl,rfl⟩;refine⟨_,G5,GU _, ?_⟩;refine Rr ?_;exact .mk (m+1) [(0,0),(3,1)] om
      (aE _ rfl ⟨⟨0,_,rfl,rfl,.cons (.agg (.cons (.junk _) (.cons (.junk _) (.cons (.junk _) (.cons (.junk _) (.cons (.junk _) (.s (.cons (.junk _) .nil)))))))) .nil⟩,⟨3,_,rfl,rfl,.eq (aQ _) hfz⟩,trivial⟩
       ⟨aR nr,aR (.ip' (.agg' (.cons nA .nil))),⟨_,rfl,.slE rfl (by simp)⟩,aK,trivial⟩) om
   ·have hme:=hme om;have hmq:m=Q.length:=om;have htq:Q.take m=Q:=by rw[hmq,List.take_length]
    rw[htq];refine Rr ?_;rw[hme];refine Rr ?_;exact bU (r':=.tup [.il 1 (aT Q),.int .i64 0]) (.tup' (.cons (j9 (id:=1) rfl (by rw[aD];exact hmq) rfl (aQ Q)) (.s .nil))) ⟨rfl,rfl,rfl⟩
set_option maxHeartbeats 16000000
theorem AY{A:List Nd}(h:VT A){p:List Int}(hp:p.length<=1000000000)(s:Bool):∀f,PP A p s f
 | 0=>fun i a0 L hif _ _ _=>om
 | f+1=>MA h hp s f (AY h hp s f)
def q6(v:a7)(node:Int)(X:List Sp)(code:Int):AV:=match v with
 | .mk a b c d=>.agg [.int .i64 a,.int .i64 b,.str c,.il 4 (aO d),.int .i64 node,.il 3 (c7 X),.int .i64 code]
theorem sZ(v:a7)(node:Int)(X:List Sp)(code:Int):NN (q6 v node X code):=by
 obtain⟨a,b,c,d⟩:=v;exact .agg' (.cons nn (.cons nn (.cons nn (.cons (.il' (aS _)) (.cons nn (.cons (.il' (hZ _)) (.cons nn .nil)))))))
def Pl(p:List Int)(s:Bool)(r0:wR):AV->aN->Nat->Prop:=fun r m k=>m=[]/\k=0/\((r0.stop = -1/\∃X:List Sp,X.length<=r0.spans.length/\(s=true->X=r0.spans)/\r=q6 r0.val (-1) X 0)∨(∃n:Nat,r0.stop=(n:Int)/\r=q6 vZ n [] 0)∨(r0.stop = -2/\r=q6 vZ (-1) [] 11))
def QQ(A:List Nd)(p:List Int):AV:=.fn (.func 124) [] [.ptr 6 0 0,.ip (.il 1 (aT p)),.ip (.agg [.il 12 (aW A)])]
def QR(A:List Nd)(s:Bool):AV:=.fn (.func 126) [] [.ip (.agg [.il 12 (aW A)]),.ip (wk A),.ip (.bool s),.ip (.il 1 (kB (cN A))),.ptr 7 0 0,.ptr 8 0 0,.ptr 6 0 0,.ptr 3 0 0]
def Og(A:List Nd)(p:List Int)(s:Bool)(a:Nat)(rid n:Nat)(xs:List AV):aN:=
 [(6,.row 3 1 [.int .i64 (a:Int)]),(3,.row 104 7 [Ok rid n]),(7,.row 184 1 [QQ A p]),(8,.row 92 1 [QR A s]),(rid,.row 186 3 xs)]
theorem Ke{mem:aN}{σ:List (Nat × Nat)}{a b n m:Nat}(h:lk σ a=some b)(e:n=m):GJ mem σ (Ok a n) (Ok b m):=
 .agg (.s (.s (.s (.s (.s (.cons (.slE h e) (.s .nil)))))))
theorem Pe{mem:aN}{σ:List (Nat × Nat)}{A:List Nd}{p:List Int}(h:lk σ 6=some 0):Cv mem σ (QQ A p) (N4 A p):=
 .fn _ _ _ _ _ rfl rfl (by simp) (jL.cons (.ptr 6 0 0 0 h) (.cons (.same _ (Ac p)) (.cons (.same _ (oY A)) .nil))).2
theorem Oy{mem:aN}{σ:List (Nat × Nat)}{A:List Nd}{p:List Int}(h:lk σ 0=some 6):Cv mem σ (N4 A p) (QQ A p):=
 .fn _ _ _ _ _ rfl rfl (by simp) (jL.cons (.ptr 0 6 0 0 h) (.cons (.same _ (Ac p)) (.cons (.same _ (oY A)) .nil))).2
theorem Ph{mem:aN}{σ:List (Nat × Nat)}{A:List Nd}{s:Bool}(h0:lk σ 6=some 0)(h1:lk σ 3=some 1)(h2:lk σ 7=some 2)(h3:lk σ 8=some 3):Cv mem σ (QR A s) (DU A s):=
 .fn _ _ _ _ _ rfl rfl (by simp) (jL.cons (.same _ (oY A)) (.cons (.same _ (yD A)) (.s (.cons (.same _ (Cq A)) (.cons (.ptr 7 2 0 0 h2) (.cons (.ptr 8 3 0 0 h3) (.cons (.ptr 6 0 0 0 h0) (.cons (.ptr 3 1 0 0 h1) .nil)))))))).2
theorem O6{mem:aN}{σ:List (Nat × Nat)}{A:List Nd}{s:Bool}(h0:lk σ 0=some 6)(h1:lk σ 1=some 3)(h2:lk σ 2=some 7)(h3:lk σ 3=some 8):Cv mem σ (DU A s) (QR A s):=
 .fn _ _ _ _ _ rfl rfl (by simp) (jL.cons (.same _ (oY A)) (.cons (.same _ (yD A)) (.s (.cons (.same _ (Cq A)) (.cons (.ptr 2 7 0 0 h2) (.cons (.ptr 3 8 0 0 h3) (.cons (.ptr 0 6 0 0 h0) (.cons (.ptr 1 3 0 0 h1) .nil)))))))).2
theorem KW{A:List Nd}{p:List Int}{s:Bool}{a b:Nat}{L:List Sp}(h:a=b):cM (o6 A p s a L 5 []) [(0,6),(1,3),(2,7),(3,8),(5,10)] (Og A p s b 10 L.length (c7 L)):=
 ⟨⟨0,_,rfl,rfl,.cons (.one rfl rfl (.int (by rw[h]))) .nil⟩,⟨1,_,rfl,rfl,.cons (Ke rfl rfl) .nil⟩,⟨2,_,rfl,rfl,.cons (.one rfl rfl (Oy rfl)) .nil⟩,⟨3,_,rfl,rfl,.cons (.one rfl rfl (O6 rfl rfl rfl rfl)) .nil⟩,aJ 5 (hZ _),trivial⟩
theorem I0{mem:aN}{σ:List (Nat × Nat)}{id:Nat}{t:TypeId}{sz:Nat}{c v:AV}(h1:lk mem id=some (.row t sz [c]))(h2:lk σ id=none)(hc:c.cells=[c])(hv:v.cells=[v])(h:Cv mem σ c v):Cv mem σ (.ptr id 0 0) (.ip v):=
 J7 h1 h2 rfl (by rw[hc];rfl) hv h
structure NI(rs:List ResultVar)(v:AV)(Q:AV->aN->Nat->Prop)(Qp:Value->aN->Nat->Prop)(e:Exit)(s:St):Prop where
 run:BA prog [] (CO prog [] 0) rs Q Qp e s (some v)
noncomputable def Fp:List ResultVar:=(Tryz.f76).results.toList
def KU:AV:=.fn (.func 121) [] [.ptr 3 0 0]
theorem kX{sl:List (Nat × AV)}{M:aN}{nx nt:Nat}{Q:AV->aN->Nat->Prop}{Qp:Value->aN->Nat->Prop}(h:match wD prog Fp ⟨sl,M,nx,nt⟩ with|some r=>Q r M nx|none=>False):NI Fp KU Q Qp .ret ⟨sl,M,nx,nt⟩:=by
 refine⟨?_⟩;have e:BA prog [] (CO prog [] 0) Fp Q Qp .ret ⟨sl,M,nx,nt⟩ (some KU)=(match wD prog Fp ⟨sl,M,nx,nt⟩ with|some r=>Q r M nx|none=>False):=by kernel_rfl
 rw[e];exact h
theorem sY{a3 a4 a5:AV}{rest:List (Nat × AV)}{A:List Nd}{p:List Int}{s:Bool}{a n0:Nat}{xs:List AV}{nt:Nat}{x:Value}{n c:Int}{Q:AV->aN->Nat->Prop}{Qp:Value->aN->Nat->Prop}(hx:x=uE n c)
  (h:∀M:aN,Q (.agg [.int .i64 0,.int .i64 0,.str [],.nsl,.int .i64 n,.nsl,.int .i64 c]) M 12):NI Fp KU Q Qp (.panic [pe x]) ⟨(3,a3)::(4,a4)::(5,a5)::(6,.ptr 3 0 0)::rest,Og A p s a 10 n0 xs,11,nt⟩:=by
 subst hx;refine⟨?_⟩;have e:BA prog [] (CO prog [] 0) Fp Q Qp (.panic [pe (uE n c)]) ⟨(3,a3)::(4,a4)::(5,a5)::(6,.ptr 3 0 0)::rest,Og A p s a 10 n0 xs,11,nt⟩ (some KU) =
  Q (.agg [.int .i64 0,.int .i64 0,.str [],.nsl,.int .i64 n,.nsl,.int .i64 c]) [(11,.row 177 2 [.agg [.int .i64 n,.int .i64 c]]),(6,.row 3 1 [.int .i64 (a:Int)]),(3,.row 104 7 [.agg [.int .i64 0,.int .i64 0,.str [],.nsl,.int .i64 n,.nsl,.int .i64 c]]),(7,.row 184 1 [QQ A p]),(8,.row 92 1 [QR A s]),(10,.row 186 3 xs)] 12:=by kernel_rfl
 rw[e];exact h _
theorem P4{A:List Nd}{p:List Int}(h:J3 A p)(s:Bool):aG prog [] 76 [.agg [.il 12 (aW A)],.il 1 (aT p),.bool s] [] 0 (Pl p s (fW p (fV A p))):=by
 have hp:=h.tree.pos;have hl:=h.tree.tin.len;have hpl:=h.len;have hC:=h.cnt A.length (A.length-1) 0 om om;have hF:=AY h.tree (p:=p) om s A.length (A.length-1) 0 [] om om (Nat.zero_le _) (by simpa using hC);have hN:=Qz h.tree;have hP:=Lv h.tree;have hu:=BZ A p;have nA:NN (.il 12 (aW A)):=.il' (aU A);have np:NN (.il 1 (aT p)):=.il' (aQ p);have lp:=aD p;have lA:=bO A;have hw:IntKind.i64.wrap (((aW A).length:Int)-1)=((A.length-1:Nat):Int):=by rw[bO,cK ⟨om,om⟩];omega
 rw[show aZ A p A.length (A.length-1) 0=fV A p from rfl] at hF;generalize hR0:fV A p=R at *;clear hR0;obtain⟨⟨v1,v2,v3,v4⟩,u,st,sp⟩:=R;refine bI.toC (Qp:=fun _ _ _=>False) ?_ (fun _ _ _ h=>h);refine yR (H:=CO prog [] 0) bG func76 rfl ?_
 conv=>whnf
 refine mF.seq (mF.of rfl ?_);refine Rr ?_;refine mF.seq (mF.of rfl ?_);have dA:(((aW A).length:Int) == 0)=false:=by rw[lA];exact beq_eq_false_iff_ne.2 om
 refine Rr ?_;rw[dA];refine Rr ?_;refine mF.seq (mF.region ?_)
 conv=>whnf
 refine aX ?_
 dsimp only
 refine dI.conv (s':=⟨[(3,.ip (.agg [.il 12 (aW A)])),(4,.ip (.il 1 (aT p))),(5,.ip (.bool s)),(6,.ptr 3 0 0)],[(3,.row 104 7 [.agg [.int .i64 0,.int .i64 0,.str [],.nsl,.int .i64 0,.nsl,.int .i64 0]])],4,39⟩) bG
  (aE [(3,3)] rfl ⟨aJ 3 (.cons (.agg' (.cons nn (.cons nn (.cons nn (.cons nn (.cons nn (.cons nn (.cons nn .nil)))))))) .nil),trivial⟩
   ⟨⟨_,rfl,J7 (id:=0) rfl rfl rfl rfl rfl (.same _ nA)⟩,⟨_,rfl,I0 (id:=1) rfl rfl rfl rfl (.same _ np)⟩,⟨_,rfl,I0 (id:=2) rfl rfl rfl rfl (.same _ nn)⟩,aK,trivial⟩) ?_
 refine dI.mono (Q:=NI Fp KU (kQ 0 (Pl p s (fW p ⟨.mk v1 v2 v3 v4,u,st,sp⟩))) (Hp 0 fun _ _ _=>False)) ?_ (fun e s h=>h.run);refine Rq ?_;refine hN.goP ?_ (.cons (.agg' (.cons nA .nil)) .nil) (jQ A);refine Rq ?_;refine hP.goP ?_ (.cons (.agg' (.cons nA .nil)) (.cons (jQ A) .nil)) (.il' (gI _));refine Rq ?_;rw[hw];refine bI.ph 186 3 ?_;refine bI.pre bG [(3,3),(6,6),(7,7),(8,8),(9,9)] (args':=[.int .i64 ((A.length-1:Nat):Int),.ip (.agg [.il 12 (aW A)]),.ip (wk A),.ip (.bool s),.ip (.il 1 (kB (cN A))),.ptr 7 0 0,.ptr 8 0 0,.ptr 6 0 0,.ptr 3 0 0])
  (mem':=Og A p s 0 9 0 []) rfl
  ⟨⟨6,_,rfl,rfl,.cons (.one rfl rfl (.int rfl)) .nil⟩,⟨3,_,rfl,rfl,.cons (.agg (.s (.s (.s (.s (.s (.cons (.nslk 9 9 _ rfl rfl) (.s .nil)))))))) .nil⟩,
   ⟨7,_,rfl,rfl,.cons (.one rfl rfl (.fn _ _ _ _ _ rfl rfl (by simp) (jL.cons (.ptr 6 6 0 0 rfl) (.cons (.same _ (Ac p)) (.cons (.same _ (oY A)) .nil))).2)) .nil⟩,
   ⟨8,_,rfl,rfl,.cons (.one rfl rfl (.fn _ _ _ _ _ rfl rfl (by simp) (jL.cons (.same _ (oY A)) (.cons (I0 (id:=4) rfl rfl rfl rfl (.same _ (jQ A))) (.s (.cons (I0 (id:=5) rfl rfl rfl rfl (.same _ (.il' (gI _)))) (.cons (.ptr 7 7 0 0 rfl) (.cons (.ptr 8 8 0 0 rfl) (.cons (.ptr 6 6 0 0 rfl) (.cons (.ptr 3 3 0 0 rfl) .nil)))))))).2)) .nil⟩,
   ⟨9,_,rfl,rfl,.nil⟩,trivial⟩
  (.s (.cons (.same _ (oY A)) (.cons (I0 (id:=4) rfl rfl rfl rfl (.same _ (jQ A))) (.s (.cons (I0 (id:=5) rfl rfl rfl rfl (.same _ (.il' (gI _)))) (.cons (.ptr 7 7 0 0 rfl) (.cons (.ptr 8 8 0 0 rfl) (.cons (.ptr 6 6 0 0 rfl) (.cons (.ptr 3 3 0 0 rfl) .nil))))))))) ?_
 refine bI.useN bG [(6,0),(3,1),(7,2),(8,3),(9,4)] hF rfl (.s (.cons (.same _ (oY A)) (.cons (.same _ (yD A)) (.s (.cons (.same _ (Cq A)) (.cons (.ptr 7 2 0 0 rfl) (.cons (.ptr 8 3 0 0 rfl) (.cons (.ptr 6 0 0 0 rfl) (.cons (.ptr 3 1 0 0 rfl) .nil)))))))))
  ⟨aJ 6 (.cons nn .nil),⟨3,_,rfl,rfl,.cons (Ke rfl rfl) .nil⟩,⟨7,_,rfl,rfl,.cons (.one rfl rfl (Pe rfl)) .nil⟩,⟨8,_,rfl,rfl,.cons (.one rfl rfl (Ph rfl rfl rfl rfl)) .nil⟩,⟨9,_,rfl,rfl,.nil⟩,trivial⟩ rfl ?_ ?_
 ·rintro r m k ⟨f1,rfl,X,hX,hXs,rfl,rfl⟩;have f1:st = -1:=f1;subst f1;refine⟨[(0,6),(1,3),(2,7),(3,8),(5,10)],.agg [.int .i64 v1,.int .i64 v2,.str v3,.il 4 (aO v4)],Og A p s u 10 X.length (c7 X),11,.same _ (bM (.mk v1 v2 v3 v4)),KW (Nat.zero_add _),rfl, ?_⟩;have hX:X.length<=sp.length:=hX;have hXs:s=true->X=sp:=hXs;have hu:u<=p.length:=hu;have d1:decide ((u:Int)<((aT p).length:Int))=decide (u<p.length):=by rw[lp];exact decide_eq_decide.2 om
  refine Rq ?_;rw[d1];by_cases hup:u<p.length
  ·rw[decide_eq_true hup];refine Rq ?_;refine kX ?_
   conv=>whnf
   exact bU (r':=q6 vZ (-1) [] 11) (.agg' (.s (.s (.s (.cons (.nil 4) (.s (.cons (.nil 3) (.s .nil)))))))) (by unfold fW;rw[if_pos ⟨rfl,hup⟩];exact⟨rfl,rfl,.inr (.inr ⟨rfl,rfl⟩)⟩)
  ·rw[decide_eq_false hup];refine Rq ?_;refine kX ?_
   conv=>whnf
   exact bU (r':=q6 (.mk v1 v2 v3 v4) (-1) X 0) (.agg' (.s (.s (.s (.cons (.same _ (.il' (aS _))) (.s (.cons (j9 (id:=10) rfl (eQ X).symm rfl (hZ X)) (.s .nil)))))))) (by unfold fW;rw[if_neg (fun e=>hup e.2)];exact⟨rfl,rfl,.inl ⟨rfl,X,hX,hXs,rfl⟩⟩)
 ·rintro x m k ⟨hx,a,L',rfl,rfl⟩;have hx:(∃n:Nat,st=(n:Int)/\x=uE n 0)∨(st = -2/\x=uE (-1) 11):=hx;refine⟨[(0,6),(1,3),(2,7),(3,8),(5,10)],Og A p s a 10 L'.length (c7 L'),11,KW rfl,rfl, ?_⟩;cases hx with
  | inl hx=>
   obtain⟨n,h1,h2⟩:=hx;refine sY h2 (fun M=>?_);exact bU (r':=q6 vZ n [] 0) (.agg' (.s (.s (.s (.cons (.nil 4) (.s (.cons (.nil 3) (.s .nil)))))))) (by unfold fW;rw[if_neg (fun e=>by have:=e.1;simp only at this;omega)];exact⟨rfl,rfl,.inr (.inl ⟨n,h1,rfl⟩)⟩)
  | inr hx=>
   refine sY hx.2 (fun M=>?_);exact bU (r':=q6 vZ (-1) [] 11) (.agg' (.s (.s (.s (.cons (.nil 4) (.s (.cons (.nil 3) (.s .nil)))))))) (by unfold fW;rw[if_neg (fun e=>by have:=e.1;simp only at this;omega)];exact⟨rfl,rfl,.inr (.inr ⟨hx.1,rfl⟩)⟩)
theorem Nu(p:List Int)(s:Bool):a8 prog [] 76 [.agg [.il 12 []],.il 1 (aT p),.bool s] (q6 vZ (-1) [] 11):=by
 refine bI.toC (Qp:=fun _ _ _=>False) ?_ (fun _ _ _ h=>h);refine yR (H:=CO prog [] 0) bG func76 rfl ?_
 conv=>whnf
 refine mF.seq (mF.of rfl ?_);refine Rr ?_;refine mF.seq (mF.of rfl ?_);refine Rr ?_;exact bU (r':=q6 vZ (-1) [] 11) (.agg' (.s (.s (.s (.cons (.nil 4) (.s (.cons (.nil 3) (.s .nil)))))))) ⟨rfl,rfl,rfl⟩
theorem OO{A:List Nd}{p:List Int}(h:Oj A p)(s:Bool):aG prog [] 52 [.agg [.il 12 (aW A)],.il 1 (aT p),.bool s] [] 0 fun r m k=>(∃(v:a7) (node c:Int) (S:List Sp),r = .tup [q6 v node S c,.int .i64 (fD A p)]/\v=eI A p/\(s=true->S=Jk A p))/\m=[]/\k=0:=by
 have hv:=N6 A ⟨h.tin.ok,h.tin.val,h.tin.vals,fun x hx=>by have:=h.tin.vlen x hx;omega,fun x hx=>by have:=h.tin.klen x hx;omega⟩;have nA:NN (.il 12 (aW A)):=.il' (aU A);have np:NN (.il 1 (aT p)):=.il' (aQ p);have hE:fD A p=if cC A≠0 then cC A else if A.length=0 then 11 else if (fW p (fV A p)).stop = -1 then 0 else 11:=rfl
 have hS:Jk A p=if fD A p=0 then(fW p (fV A p)).spans else []:=by rw[(xK _ _).2];rfl
 have hV:eI A p=if fD A p=0 then(fW p (fV A p)).val else vZ:=by rw[(xK _ _).1];rfl
 have hR:=fun(e:cC A=0) (hp:0<A.length)=>P4 (h.pth ⟨h.tin,e,hp⟩) s
 have hR0:A.length=0->a8 prog [] 76 [.agg [.il 12 (aW A)],.il 1 (aT p),.bool s] (q6 vZ (-1) [] 11):=fun e=>by
  rw[List.eq_nil_of_length_eq_zero e];exact Nu p s
 have lA:=bO A;generalize Jk A p=S at *;generalize eI A p=V at *;generalize fD A p=E at *;generalize cC A=vl at *;refine aM bG func52 rfl ?_;refine Rr ?_;refine hv.go ?_ (.cons (.agg' (.cons nA .nil)) .nil) nn;refine Rr ?_;refine aH (fun hb=>?_) (fun hb=>?_)
 ·have h0:vl≠0:=by simpa using hb
  rw[if_pos h0] at hE;rw[if_neg om] at hS hV;rw[hS,hV,hE];refine Rr ?_;exact bU (r':=.tup [q6 vZ 0 [] 0,.int .i64 vl]) (.tup' (.cons (.agg' (.s (.s (.s (.cons (.nil 4) (.s (.cons (.nil 3) (.s .nil)))))))) (.s .nil))) ⟨⟨vZ,0,0,[],rfl,rfl,fun _=>rfl⟩,rfl,rfl⟩
 ·have h0:vl=0:=by simpa using hb
  subst h0;have hR:=hR rfl;rw[if_neg (by simp)] at hE;refine Rr ?_;by_cases h0:A.length=0
  ·rw[if_pos h0] at hE;rw[if_neg om] at hS hV;rw[hS,hV,hE];refine(hR0 h0).go ?_ (.cons (.agg' (.cons nA .nil)) (.cons np (.cons nn .nil))) (sZ _ _ _ _);refine Rr ?_;exact bU (r':=.tup [q6 vZ 0 [] 0,.int .i64 11]) (.tup' (.cons (.agg' (.s (.s (.s (.cons (.nil 4) (.s (.cons (.nil 3) (.s .nil)))))))) (.s .nil))) ⟨⟨vZ,0,0,[],rfl,rfl,fun _=>rfl⟩,rfl,rfl⟩
  ·rw[if_neg h0] at hE;have hR:=hR om;generalize fW p (fV A p)=R at *;obtain⟨⟨v1,v2,v3,v4⟩,u,st,sp⟩:=R;simp only at hE hS hV;refine aG.go0 hR ?_ (.cons (.agg' (.cons nA .nil)) (.cons np (.cons nn .nil)));rintro r m k ⟨rfl,rfl,hr⟩;rcases hr with⟨h1,X,hX,hXs,rfl⟩|⟨n,h1,rfl⟩|⟨h1,rfl⟩
   ·simp only at h1 hX hXs;rw[if_pos h1] at hE;rw[hE,if_pos rfl] at hS hV;rw[hS,hV,hE];refine⟨_,.same _ (sZ (.mk v1 v2 v3 v4) _ _ _), ?_⟩;refine Rr ?_;exact bU (r':=.tup [q6 (.mk v1 v2 v3 v4) (-1) X 0,.int .i64 0]) (.same _ (.tup' (.cons (sZ (.mk v1 v2 v3 v4) _ _ _) (.cons nn .nil)))) ⟨⟨.mk v1 v2 v3 v4,-1,0,X,rfl,rfl,hXs⟩,rfl,rfl⟩
   ·simp only at h1;rw[if_neg om] at hE;rw[if_neg om] at hS hV;rw[hS,hV,hE];refine⟨_,.same _ (sZ vZ _ _ _), ?_⟩;refine Rr ?_;exact bU (r':=.tup [q6 vZ 0 [] 0,.int .i64 11]) (.tup' (.cons (.agg' (.s (.s (.s (.cons (.nil 4) (.s (.cons (.nil 3) (.s .nil)))))))) (.s .nil))) ⟨⟨vZ,0,0,[],rfl,rfl,fun _=>rfl⟩,rfl,rfl⟩
   ·simp only at h1;rw[if_neg om] at hE;rw[if_neg om] at hS hV;rw[hS,hV,hE];refine⟨_,.same _ (sZ vZ _ _ _), ?_⟩;refine Rr ?_;exact bU (r':=.tup [q6 vZ 0 [] 0,.int .i64 11]) (.tup' (.cons (.agg' (.s (.s (.s (.cons (.nil 4) (.s (.cons (.nil 3) (.s .nil)))))))) (.s .nil))) ⟨⟨vZ,0,0,[],rfl,rfl,fun _=>rfl⟩,rfl,rfl⟩
theorem OT{A:List Nd}{p:List Int}(h:Oj A p)(hC:∀v:a7,gD v->a8 prog [] 53 [bK v] (bK v))(hv:gD (eI A p)):a8 prog [] 21 [.agg [.il 12 (aW A)],.il 1 (aT p)] (.tup [bK (eI A p),.int .i64 (fD A p)]):=by
 have hW:=OO h false;have hC:=hC _ hv;have nA:NN (.il 12 (aW A)):=.il' (aU A);have np:NN (.il 1 (aT p)):=.il' (aQ p);generalize eI A p=V at *;generalize fD A p=E at *;have nV:=bM V;refine aM bG func21 rfl ?_;refine Rr ?_;refine aG.go0 hW ?_ (.cons (.agg' (.cons nA .nil)) (.cons np (.cons nn .nil)));rintro r m k ⟨⟨v,node,c,S',rfl,rfl,-⟩,rfl,rfl⟩;obtain⟨v1,v2,v3,v4⟩:=v;refine⟨_,.same _ (.tup' (.cons (sZ (.mk v1 v2 v3 v4) node S' c) (.cons nn .nil))), ?_⟩;refine Rt ?_;refine hC.go ?_ (.cons nV .nil) nV;refine Rt ?_;exact aB (.tup' (.cons nV (.cons nn .nil))) ⟨rfl,rfl,rfl⟩
set_option maxRecDepth 1000000
set_option maxRecDepth 1000000
def gz:List (Nat × AV):=[(0,.agg [.int .u64 1,.int .u64 10,.int .u64 100,.int .u64 1000,.int .u64 10000,.int .u64 100000,.int .u64 1000000,.int .u64 10000000,.int .u64 100000000,.int .u64 1000000000,.int .u64 10000000000,.int .u64 100000000000,.int .u64 1000000000000,.int .u64 10000000000000,.int .u64 100000000000000,.int .u64 1000000000000000,.int .u64 10000000000000000,.int .u64 100000000000000000,.int .u64 1000000000000000000,.int .u64 10000000000000000000]),(1,.agg [.int .u8 0,.int .u8 1,.int .u8 28,.int .u8 2,.int .u8 29,.int .u8 14,.int .u8 24,.int .u8 3,.int .u8 30,.int .u8 22,.int .u8 20,.int .u8 15,.int .u8 25,.int .u8 17,.int .u8 4,.int .u8 8,.int .u8 31,.int .u8 27,.int .u8 13,.int .u8 23,.int .u8 21,.int .u8 19,.int .u8 16,.int .u8 7,.int .u8 26,.int .u8 12,.int .u8 18,.int .u8 6,.int .u8 11,.int .u8 5,.int .u8 10,.int .u8 9]),(2,.agg [.int .u8 0,.int .u8 1,.int .u8 56,.int .u8 2,.int .u8 57,.int .u8 49,.int .u8 28,.int .u8 3,.int .u8 61,.int .u8 58,.int .u8 42,.int .u8 50,.int .u8 38,.int .u8 29,.int .u8 17,.int .u8 4,.int .u8 62,.int .u8 47,.int .u8 59,.int .u8 36,.int .u8 45,.int .u8 43,.int .u8 51,.int .u8 22,.int .u8 53,.int .u8 39,.int .u8 33,.int .u8 30,.int .u8 24,.int .u8 18,.int .u8 12,.int .u8 5,.int .u8 63,.int .u8 55,.int .u8 48,.int .u8 27,.int .u8 60,.int .u8 41,.int .u8 37,.int .u8 16,.int .u8 46,.int .u8 35,.int .u8 44,.int .u8 21,.int .u8 52,.int .u8 32,.int .u8 23,.int .u8 11,.int .u8 54,.int .u8 26,.int .u8 40,.int .u8 15,.int .u8 34,.int .u8 20,.int .u8 31,.int .u8 10,.int .u8 25,.int .u8 14,.int .u8 19,.int .u8 9,.int .u8 13,.int .u8 8,.int .u8 7,.int .u8 6])]
set_option maxHeartbeats 4000000
def Qm(a b:a7):Bool:=bW a b == 0
theorem OQ(a b:a7)(ho:gD a):a8 prog [] 51 [bK a,bK b] (.bool (Qm a b)):=by
 have hC:=sL a b ho;unfold Qm;obtain⟨c,hc⟩:∃c,c=bW a b:=⟨_,rfl⟩
 rw[←hc] at hC ⊢;clear hc;refine aM bG func51 rfl ?_;obtain⟨a1,a2,a3,a4⟩:=a;obtain⟨b1,b2,b3,b4⟩:=b;refine Rr ?_;refine hC.go ?_;refine Rr ?_;exact aB (.bool _) ⟨rfl,rfl,rfl⟩
set_option maxHeartbeats 16000000
theorem ML{α:Type}(l:List α)(xs:List AV)(h:xs.length=l.length):(((xs.length:Nat):Int) == 0)=decide (l.length=0):=by rw[h,Bool.eq_iff_iff];simp
theorem Pu{a b c:Bool}{n bytes:Nat}(ha:a=true)(hb:b=true)(hc:c=true)(h:n<=4294967296)(hby:Nat.ble bytes 4096=true) :
  (a && (b && (c && (decide (0<=(n:Int)) && (decide ((n:Int)<=n) && (decide ((bytes:Int)*n<=281474976710656) && decide ((n:Int)<=9223372036854775807)))))))=true:=by
 have hby:=Nat.le_of_ble_eq_true hby;have h3:bytes*n<=4096*4294967296:=Nat.mul_le_mul hby h;have h4:((bytes:Nat):Int)*(n:Int)=((bytes*n:Nat):Int):=by simp
 rw[ha,hb,hc,h4,decide_eq_true om,decide_eq_true om,decide_eq_true om,decide_eq_true om];rfl
def qV(zs:List AV)(l:List AV)(k:Nat):List AV:=l.take k++zs.drop k
theorem Ib{zs l:List AV}(h:zs.length=l.length):qV zs l l.length=l:=by simp[qV];omega
theorem IZ{zs l:List AV}(h:zs.length=l.length){k:Nat}(hk:k<l.length):(qV zs l k)[k]? = zs[k]? := by
 unfold qV;rw[List.getElem?_append_right (by rw[List.length_take];omega)];rw[List.length_take,Nat.min_eq_left (Nat.le_of_lt hk),Nat.sub_self,List.getElem?_drop,Nat.add_zero]
theorem I2{zs l:List AV}(h:zs.length=l.length){k:Nat}(hk:k<l.length){v:AV}(hv:l[k]? = some v):(qV zs l k).set k v=qV zs l (k+1):=by
 unfold qV;rw[List.set_append_right _ _ (by rw[List.length_take];omega)];rw[List.length_take,Nat.min_eq_left (Nat.le_of_lt hk),Nat.sub_self,List.drop_eq_getElem_cons (by omega:k<zs.length),List.set_cons_zero,List.take_add_one,hv];simp
theorem Md{mem:aN}{σ:List (Nat × Nat)}{x y:AV}(h:GJ mem σ x y)(n:Nat):qS mem σ (List.replicate n x) (List.replicate n y):=by
 refine⟨by simp,fun i a b ha hb=>?_⟩;rw[List.getElem?_replicate] at ha hb;split at ha
 ·rename_i e;rw[if_pos e] at hb;cases ha;cases hb;exact h
 ·cases ha
theorem N8{x:AV}(h:NN x)(n:Nat):iW (List.replicate n x):=fun a ha=>by
 rw[List.eq_of_mem_replicate ha];exact h
theorem KG{zs l:List AV}(h1:iW zs)(h2:iW l)(k:Nat):iW (qV zs l k):=fun a ha=>by
 rcases List.mem_append.1 ha with ha|ha
 ·exact h2 a (List.mem_of_mem_take ha)
 ·exact h1 a (List.mem_of_mem_drop ha)
theorem O9(l:List a7)(hl:l.length<=4294967296)(h:∀v∈l,a8 prog [] 53 [bK v] (bK v)):a8 prog [] 77 [.il 4 (aO l),.fn (.func 53) [] []] (.il 4 (aO l)):=by
 refine aM bG func77 rfl ?_;refine Rr ?_;rw[ML l _ (aA l)];by_cases h0:l.length=0
 ·rw[decide_eq_true h0];obtain rfl:l=[]:=List.eq_nil_of_length_eq_zero h0;refine Rr ?_;exact bU (r':=.il 4 (aO [])) (.nil 4) ⟨rfl,rfl,rfl⟩
 ·rw[decide_eq_false h0];refine Rr ?_;rw[aA];refine aP (Pu rfl rfl rfl hl rfl) ?_;refine Rr ?_;obtain⟨zs,hzs⟩:∃zs,zs=List.replicate l.length (bK (.mk 0 0 [] [])):=⟨_,rfl⟩
  have hzn:iW zs:=by rw[hzs];exact N8 nn _
  have hzl:zs.length=(aO l).length:=by rw[hzs,aA];simp
  refine a9.at bG (fun k:Nat=>k<=l.length) (fun k=>⟨[(0,.il 4 (aO l)),(1,.fn (.func 53) [] []),(5,.sl 0 0 l.length),(14,.int .i64 l.length),(15,.int .i64 k)],[(0,.row 57 4 (qV zs (aO l) k))],1,29⟩) (fun k=>l.length-k) 0 [(0,0)] (by simp)
   (aE _ rfl ⟨⟨0,_,rfl,rfl,by rw[hzs];exact Md (v5 0 0 []) _⟩,trivial⟩ ⟨aR (.il' (aS _)),aF,⟨_,rfl,.slE rfl (by simp)⟩,⟨_,rfl,.int (by rw[aA])⟩,aF,trivial⟩) ?_
  have hz0:∀k<l.length,zs[k]? = some (bK (.mk 0 0 [] [])):=fun k hk=>by rw[hzs,List.getElem?_replicate,if_pos hk]
  clear hzs;intro k hk;refine Rr ?_;refine aH (fun hb=>?_) (fun hb=>?_)
  ·have hlt:k<l.length:=by simpa using hb
   obtain⟨v1,v2,v3,v4,vm,vg,-,ev⟩:=bX (l:=l) (k:=k) hlt;have hv:=h _ vm;have bx:Nat.blt ((k:Nat):Int).toNat l.length=true:=Nat.ble_eq_true_of_le (by simp;omega);have bz:(qV zs (aO l) k)[0+((k:Nat):Int).toNat]? = some (bK (.mk 0 0 [] [])):=by
    rw[←hz0 k hlt,show 0+((k:Nat):Int).toNat=k by simp];exact IZ hzl (by rw[aA];exact hlt)
   have hs:=I2 hzl (k:=k) (by rw[aA];exact hlt) (v:=bK (.mk v1 v2 v3 v4)) (by rw[gK,vg];rfl);refine Rr ?_;repeat((first|refine aC ev ?_|refine aX ?_);refine Rr ?_)
   refine hv.go ?_;refine Rt ?_;repeat((first|refine aP bx ?_|refine aC bz ?_);refine Rt ?_)
   exact .mk (k+1) [(0,0)] om
    (aE _ rfl ⟨⟨0,_,rfl,rfl,.eq (KG hzn (aS _) _) (by rw[←hs];simp;rfl)⟩,trivial⟩ ⟨aR (.il' (aS _)),aF,⟨_,rfl,.slE rfl rfl⟩,aF,⟨_,rfl,.w64 om ⟨om,om⟩⟩,trivial⟩) om
  ·have hkl:k=l.length:=by simp at hb;omega
   subst hkl;refine Rr ?_;rw[show qV zs (aO l) l.length=aO l by rw[←aA l];exact Ib hzl];exact bU (r':=.il 4 (aO l)) (.fz' (id:=0) rfl rfl (by rw[aA];omega) (by rw[List.drop_zero];exact List.take_of_length_le (by rw[aA];omega)) (aS _)) ⟨rfl,rfl,rfl⟩
theorem Jv:∀(f:Nat) (v:a7),bC v<=f->gD v->a8 prog [] 53 [bK v] (bK v)
 | 0,.mk k n s l,h,_=>by simp[bC] at h
 | f+1,.mk k n s l,h,hv=>by
  simp only[gD] at hv;have hk:∀v∈l,a8 prog [] 53 [bK v] (bK v):=fun v hm=>Jv f v (by have:=B5 hm;simp[bC] at h;omega) (nJ hv.2.2.2.2 v hm)
  have hc:=O9 l hv.2.2.2.1 hk;refine aM bG func53 rfl ?_;refine Rr ?_;refine hc.go ?_ (.cons (.il' (aS _)) (.cons nn .nil)) (.il' (aS _));refine Rt ?_;exact aB (bM (.mk k n s l)) ⟨rfl,rfl,rfl⟩
set_option maxHeartbeats 8000000
theorem J9{A B:List Nd}{x y:Gr}(hA:a8 prog [] 21 [.agg [.il 12 (aW A)],.il 1 (aT x.min)] (.tup [bK (eI A x.min),.int .i64 (fD A x.min)]))
  (hB:a8 prog [] 21 [.agg [.il 12 (aW B)],.il 1 (aT y.min)] (.tup [bK (eI B y.min),.int .i64 (fD B y.min)])) (ho:gD (eI A x.min)) :
  a8 prog [] 19 [.agg [.il 12 (aW A)],.agg [.il 12 (aW B)],oI x,oI y] (.bool (vL 1 2 x.oc y.oc (fD A x.min) (fD B y.min) (eI A x.min) (eI B y.min))):=by
 have nA:NN (.il 12 (aW A)):=.il' (aU A);have nB:NN (.il 12 (aW B)):=.il' (aU B);have tA:NN (.agg [.il 12 (aW A)]):=.agg' (.cons nA .nil);have tB:NN (.agg [.il 12 (aW B)]):=.agg' (.cons nB .nil);have hO:=OA x.oc y.oc;have hC:=lN (eI A x.min) (eI B y.min) ho;unfold vL;generalize eI A x.min=u at *;generalize eI B y.min=v at *;generalize fD A x.min=e at *;generalize fD B y.min=f at *;generalize oV 1 2 x.oc y.oc=b at *;have nu:=bM u;have nv:=bM v;generalize bW u v=c at *;obtain⟨u1,u2,u3,u4⟩:=u;obtain⟨v1,v2,v3,v4⟩:=v;obtain⟨p,⟨o1,o2,o3⟩,fs⟩:=x;obtain⟨q,⟨q1,q2,q3⟩,gs⟩:=y;have np:NN (.il 1 (aT p)):=.il' (aQ p);have nq:NN (.il 1 (aT q)):=.il' (aQ q);refine aM bG func19 rfl ?_;refine Rr ?_;refine hO.go ?_ (.cons (pF _) (.cons (pF _) .nil)) nn;refine Rr ?_;cases b
 ·refine Rr ?_;exact aB (.bool _) ⟨rfl,rfl,rfl⟩
 ·refine Rr ?_;refine hA.go ?_ (.cons tA (.cons np .nil)) (.tup' (.cons nu (.cons nn .nil)));refine Rt ?_;refine hB.go ?_ (.cons tB (.cons nq .nil)) (.tup' (.cons nv (.cons nn .nil)));refine Rt ?_;by_cases h1:e=0
  ·subst h1;refine Rr ?_;by_cases h2:f=0
   ·subst h2;refine Rr ?_;refine hC.go ?_ (.cons nu (.cons nv .nil)) nn;refine Rr ?_;exact bU (r':=.bool _) (.bool (by simp)) ⟨rfl,rfl,rfl⟩
   ·rw[show (f == 0)=false by simpa using h2,decide_eq_false h2];refine Rr ?_;exact bU (r':=.bool _) (.bool (by simp)) ⟨rfl,rfl,rfl⟩
  ·rw[show (e == 0)=false by simpa using h1,decide_eq_false h1];refine Rr ?_;exact bU (r':=.bool _) (.bool (by simp)) ⟨rfl,rfl,rfl⟩
theorem Nb{A B:List Nd}{x y:Gr}(hA:a8 prog [] 50 [.agg [.il 12 (aW A)],.il 1 (aT x.min)] (.tup [bK (eI A x.min),.int .i64 (fD A x.min)]))
  (hB:a8 prog [] 50 [.agg [.il 12 (aW B)],.il 1 (aT y.min)] (.tup [bK (eI B y.min),.int .i64 (fD B y.min)])) (ho:gD (eI A x.min)) :
  a8 prog [] 20 [.agg [.il 12 (aW A)],.agg [.il 12 (aW B)],oI x,oI y] (.bool (vL 1 2 x.oc y.oc (fD A x.min) (fD B y.min) (eI A x.min) (eI B y.min))):=by
 have nA:NN (.il 12 (aW A)):=.il' (aU A);have nB:NN (.il 12 (aW B)):=.il' (aU B);have tA:NN (.agg [.il 12 (aW A)]):=.agg' (.cons nA .nil);have tB:NN (.agg [.il 12 (aW B)]):=.agg' (.cons nB .nil);have hO:=Ns x.oc y.oc;have hC:=OQ (eI A x.min) (eI B y.min) ho;unfold Qm at hC;unfold vL;generalize eI A x.min=u at *;generalize eI B y.min=v at *;generalize fD A x.min=e at *;generalize fD B y.min=f at *;generalize oV 1 2 x.oc y.oc=b at *;have nu:=bM u;have nv:=bM v;generalize bW u v=c at *;obtain⟨u1,u2,u3,u4⟩:=u;obtain⟨v1,v2,v3,v4⟩:=v;obtain⟨p,⟨o1,o2,o3⟩,fs⟩:=x;obtain⟨q,⟨q1,q2,q3⟩,gs⟩:=y;have np:NN (.il 1 (aT p)):=.il' (aQ p);have nq:NN (.il 1 (aT q)):=.il' (aQ q);refine aM bG func20 rfl ?_;refine Rr ?_;refine hO.go ?_ (.cons (pF _) (.cons (pF _) .nil)) nn;refine Rr ?_;cases b
 ·refine Rr ?_;exact aB (.bool _) ⟨rfl,rfl,rfl⟩
 ·refine Rr ?_;refine hA.go ?_ (.cons tA (.cons np .nil)) (.tup' (.cons nu (.cons nn .nil)));refine Rt ?_;refine hB.go ?_ (.cons tB (.cons nq .nil)) (.tup' (.cons nv (.cons nn .nil)));refine Rt ?_;by_cases h1:e=0
  ·subst h1;refine Rr ?_;by_cases h2:f=0
   ·subst h2;refine Rr ?_;refine hC.go ?_ (.cons nu (.cons nv .nil)) nn;refine Rr ?_;exact bU (r':=.bool _) (.bool (by simp)) ⟨rfl,rfl,rfl⟩
   ·rw[show (f == 0)=false by simpa using h2,decide_eq_false h2];refine Rr ?_;exact bU (r':=.bool _) (.bool (by simp)) ⟨rfl,rfl,rfl⟩
  ·rw[show (e == 0)=false by simpa using h1,decide_eq_false h1];refine Rr ?_;exact bU (r':=.bool _) (.bool (by simp)) ⟨rfl,rfl,rfl⟩
end Go.Proofs.YtobknjmfgjaehaaGreatDoor
namespace Go.Ax
open Go
structure PZ(x:Nd):Prop where
 ok:qG x
 val:bC x.value<=1024
 vals:∀v∈x.values,bC v<=1024
 vlen:x.values.length<=1024
 klen:x.kids.length<=1025
 llen:x.labels.length<=256
 wlen:x.weights.length<=256
 lab:∀s∈x.labels,s∈vE
theorem yY:∀{l:List a7},dW l=0->∀v∈l,fG v=0
 | [],_,v,hv=>by simp at hv
 | a::r,h,v,hv=>by
  simp only[dW] at h;split at h
  ·rename_i h1;exact absurd h h1
  ·rename_i h1;rcases List.mem_cons.1 hv with rfl|hv
   ·exact Decidable.not_not.1 h1
   ·exact yY h v hv
theorem yM{v:a7}(h:fG v=0):bC v<=1024:=by
 unfold fG at h;split at h
 ·omega
 ·split at h
  ·omega
  ·rename_i h1;rw[not_or] at h1;omega
theorem Gw{v:a7}(h:AG v=true):bC v<=1024:=by
 obtain⟨k,n,s,ks⟩:=v;simp only[AG,Bool.and_eq_true,decide_eq_true_eq] at h;have:ks=[]:=List.length_eq_zero_iff.1 h.2;subst this;simp[bC,cE]
theorem Iq{ns:List Nd}(h:gZ ns):∀x∈ns,PZ x:=by
 intro x hx;obtain⟨j,hj⟩:=List.getElem?_of_mem hx;have hn:=qD ns h.valid j x hj;have hN:=jP hn;have hg:=h.gen x hx;have hf:=iD hn;have hfe:dW (nP x)=0:=by
  unfold eO at hn;rw[if_neg (by rw[hf];simp)] at hn;split at hn
  ·rename_i h1;exact absurd hn h1
  ·rename_i h1;exact Decidable.not_not.1 h1
 have hv:=yY hfe;unfold cX at hf;simp only[Bool.and_eq_true] at hf;obtain⟨⟨⟨⟨⟨⟨hu,hkd⟩,hki⟩,h2⟩,h3⟩,h4⟩,h5⟩:=hf;unfold iE at hu;simp only[Bool.and_eq_true,Bool.or_eq_true,decide_eq_true_eq] at hu h2 h4;have hul:=hu.1.1.2;have hz:=hu.1.1.1.1.1;have hvl:=hg.vals;refine⟨hg.ok, ?_,fun v hm=>yM (hv v (by unfold nP;exact List.mem_append_right _ hm)),hvl, ?_, ?_, ?_,hg.labels⟩
 ·rcases hz with e|e
  ·exact yM (hv x.value (by unfold nP;rw[if_pos e];simp))
  ·exact Gw e
 ·by_cases e:x.kind=4
  ·have:=hN.bind e;omega
  ·have:=hN.klen e;omega
 ·rcases hul with e|e
  ·rcases h2 with h2|h2
   ·exact absurd e h2
   ·omega
  ·omega
 ·rcases hul with e|e
  ·rcases h2 with h2|h2
   ·exact absurd e h2
   ·omega
  ·omega
structure RD(LB:List (List UInt8))(x:Nd):Prop where
 ok:qG x
 val:bC x.value<=1048576
 vals:∀v∈x.values,bC v<=1048576
 vlen:x.values.length<=2000
 klen:x.kids.length<=2000
 llen:x.labels.length<=1000
 lab:∀s∈x.labels,s∈LB
variable {LB:List (List UInt8)}
theorem Lf(hLB:∀s∈vE,s∈LB){x:Nd}(h:PZ x):RD LB x:=
 ⟨h.ok,by have:=h.val;omega,fun v hv=>by have:=h.vals v hv;omega,by have:=h.vlen;omega,by have:=h.klen;omega,by have:=h.llen;omega,fun s hs=>hLB s (h.lab s hs)⟩
theorem Iy{ns:List Nd}(hLB:∀s∈LB,s.length<=19)(h:∀x∈ns,RD LB x)(hl:ns.length<=1000):qY ns:=
 ⟨fun x hx=>(h x hx).ok,fun x hx=>(h x hx).val,fun x hx=>(h x hx).vals,fun x hx=>(h x hx).vlen,fun x hx=>(h x hx).klen,fun x hx=>(h x hx).llen,fun x hx s hs=>by have:=hLB s ((h x hx).lab s hs);omega,hl⟩
end Go.Ax
namespace Go.Ax
open Go
theorem O0{A:List Nd}(h:∀x∈A,Ik x)(j:Nat):gN (aI A j)<=3:=by
 unfold aI;rw[List.getD_eq_getElem?_getD];cases e:A[j]? with
 | none=>simp[gN]
 | some x=>
  have hg:=h x (List.mem_of_getElem? e);simp only[Option.getD_some];unfold gN;split
  ·rename_i h3;have:=hg.seq h3;omega
  ·omega
theorem Km{A:List Nd}{i:Nat}(h:∀j,j≠i->gN (aI A j)<=3)(h4:gN (aI A i)<=4):∀n,(n<i->HP A n<=3 ^ n)/\3*HP A n<=4*3 ^ n
 | 0=>by simp[HP]
 | n+1=>by
  obtain⟨a,b⟩:=Km h h4 n;have hp:3 ^ (n+1)=3*3 ^ n:=by rw[Nat.pow_succ,Nat.mul_comm]
  rw[HP,hp];by_cases e:n+1=i
  ·rw[e];have a:=a om;have:=Nat.mul_le_mul a h4;exact⟨fun q=>absurd q (Nat.lt_irrefl _),om⟩
  ·have h3:=h (n+1) e;have:=Nat.mul_le_mul (Nat.le_refl (HP A n)) h3;exact⟨fun q=>by have:=a om;omega,om⟩
theorem Lp{n:Nat}(h:n<=13):4*3 ^ n<=6377292:=by
 have:(3:Nat) ^ n<=3 ^ 13:=Nat.pow_le_pow_right om h;omega
theorem NY{A:List Nd}(h:VT A)(hH:3*HP A (A.length-1)<=6377292):∀p f i a0,i<f->i<A.length->(aZ A p f i a0).spans.length<=3200000:=fun p f i a0 hf hi=>by
 have h1:=Bs h p f i a0 hf hi;have h2:=sO A (k:=i) (n:=A.length-1) om;omega
end Go.Ax
