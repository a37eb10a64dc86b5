/- A part of the proof. -/
import Derived.Test.YthempfhilcmfnaaGreatAx13
set_option linter.unusedVariables false
set_option linter.unusedSimpArgs false
namespace Go.Proofs.YthempfhilcmfnaaGreat
open Go Go.Ax Go.Proofs Tryz
set_option maxRecDepth 100000
set_option maxHeartbeats 8000000
theorem Js(i:Nat)(x:Nd)(hi:i<=4294967296)(hx:rL x):a8 prog [] 93 [.int .i64 i,bU x] (.bool (cV i x)):=by
  have b1:=hx.kids;have b2:=hx.values;have hcmp:∀a∈x.values,∀b,a8 prog [] 116 [bT a,bT b] (.int .i64 (cN a b)):=fun a ha b=>wM a b (hx.valuesI a ha).1
  have hub:=MF x;have hcb:=PA x.name hx.name;have hres:cV i x=(iI x && (decide (0<=x.kind) && decide (x.kind<=4)) && mS i x.kids && (decide (x.kind≠2) || (decide (1<=x.kids.length) && decide (x.kids.length<=256) && decide (x.weights.length=x.kids.length) && (decide (x.labels.length=0) || decide (x.labels.length=x.kids.length)))) &&
    (decide (x.kind≠3) || (decide (x.kids.length<=256) && (decide (x.name=[]) || (fA x.name && decide (x.kids.length<=16))))) && (decide (x.kind≠4) || decide (x.kids.length=x.values.length+1)) && eE x.values):=rfl
  clear hx;generalize cV i x=res at hres;generalize iI x=ub at hub hres;generalize fA x.name=cb at hcb hres;obtain⟨kind,name,lo,hi,ws,ls,vals,kids,⟨vk,vn,vs,vks⟩⟩:=x;simp only at b1 b2 hres hcmp hcb;have hw4:IntKind.i64.wrap ((vals.length:Int)+1)=(vals.length:Int)+1:=w64 rfl ⟨by omega,by omega⟩;have hF:(res=true->False)->AV.bool false=AV.bool res:=fun h1=>by
    cases hr:res with
    | false=>rfl
    | true=>exact(h1 hr).elim
  refine aL bC func93 rfl ?_;rcases(show kind=0∨kind=1∨kind=2∨kind=3∨kind=4∨(kind<0∨4<kind) by omega) with rfl|rfl|rfl|rfl|rfl|hk
  · ((conv=>whnf);repeat(refine Xg ?_;conv=>whnf))
    refine hub.go ?_ (.cons (aW _) .nil);cases ub with
    | false=>
      ((conv=>whnf);repeat(refine Xg ?_;conv=>whnf));exact aA nn ⟨hF (by intro e;rw[hres] at e;simp at e),rfl,rfl⟩
    | true=>
      ((conv=>whnf);repeat(refine Xg ?_;conv=>whnf));refine a7.at bC (fun k:Nat=>k<=kids.length/\∀(j:Nat) (q:Int),j<k->kids[j]? = some q->0<=q/\q<i)
        (fun k=>⟨[(0,.int .i64 i),(3,.ptr 0 0 0),(6,.int .i64 k)],[(0,.row 62 12 [bU ⟨0,name,lo,hi,ws,ls,vals,kids,.mk vk vn vs vks⟩])],1,136⟩) (fun k=>kids.length-k) 0 [(0,0)] ⟨by simp,by simp⟩
        (aJ _ rfl ⟨⟨0,_,rfl,rfl,.same (.cons (aW _) .nil)⟩,trivial⟩ ⟨aH,⟨_,rfl,.ptr 0 0 0 0 rfl⟩,aH,trivial⟩) ?_
      rintro k ⟨hk,hall⟩;((conv=>whnf);repeat(refine Xg ?_;conv=>whnf));refine aO (fun h=>?_) (fun h=>?_)
      · have hlt:k<kids.length:=by rw[aE] at h;simpa using h
        have e1:(aI kids)[(k:Int).toNat]? = some (.int .i64 kids[k]):=by rw[Rq,bG,Rm hlt];rfl
        have hg:kids[k]? = some kids[k]:=Rm hlt;generalize kids[k]=q at e1 hg;have hbad:(0<=q/\q<i->False)->AV.bool false=AV.bool res:=fun hb=>hF (by
          intro e;rw[hres] at e;simp only[Rr] at e;exact hb (eP.1 e.1.1.1.1.2 k q hg))
        ((conv=>whnf);repeat(refine Xg ?_;conv=>whnf));refine aC e1 ?_;((conv=>whnf);repeat(refine Xg ?_;conv=>whnf));refine aO (fun h=>?_) (fun h=>?_)
        · rw[h]
          ((conv=>whnf);repeat(refine Xg ?_;conv=>whnf));exact aA nn ⟨hbad (by simp at h;omega),rfl,rfl⟩
        · have g1:0<=q:=by simpa using h
          rw[h];((conv=>whnf);repeat(refine Xg ?_;conv=>whnf));refine aC e1 ?_;((conv=>whnf);repeat(refine Xg ?_;conv=>whnf));refine aO (fun h=>?_) (fun h=>?_)
          · ((conv=>whnf);repeat(refine Xg ?_;conv=>whnf))
            exact aA nn ⟨hbad (by simp at h;omega),rfl,rfl⟩
          · have g2:q<i:=by simpa using h
            ((conv=>whnf);repeat(refine Xg ?_;conv=>whnf));refine .mk (k+1) [(0,0)] ⟨by omega,fun j w2 hj hw2=>?_⟩ (aJ _ rfl ⟨⟨0,_,rfl,rfl,.same (.cons (aW _) .nil)⟩,trivial⟩ ⟨aH,⟨_,rfl,.ptr 0 0 0 0 rfl⟩,⟨_,rfl,.wo⟩,trivial⟩) (by omega);rcases R9 j k with hj'|hj'
            · exact hall j w2 hj' hw2
            · have hjk:j=k:=by omega
              rw[hjk,hg] at hw2;cases hw2;exact⟨g1,g2⟩
      · have hk':k=kids.length:=by rw[aE] at h;simp at h;omega
        have hkin:mS i kids=true:=eP.2 fun j q hj=>hall j q (by rw[hk'];exact(Rt.1 hj).1) hj
        clear hall h hk hk';((conv=>whnf);repeat(refine Xg ?_;conv=>whnf));repeat' (refine aO (fun h=>?_) (fun h=>?_)<;>((try rw[h]);(conv=>whnf);repeat(refine Xg ?_;conv=>whnf)))
        all_goals first
          | exact aA nn ⟨hF (by
              intro e;rw[hres] at e;clear hub hcb hcmp hF;simp_all[aE,bX];try omega),rfl,rfl⟩
          | (refine hcb.go ?_
             cases cb<;>((conv=>whnf);repeat(refine Xg ?_;conv=>whnf))<;>(repeat' (refine aO (fun h=>?_) (fun h=>?_)<;>((try rw[h]);(conv=>whnf);repeat(refine Xg ?_;conv=>whnf)))))
        all_goals first
          | exact aA nn ⟨hF (by
              intro e;rw[hres] at e;clear hub hcb hcmp hF;simp_all[aE,bX,aF];try omega),rfl,rfl⟩
          | skip
        all_goals
          have hrs:res=eE vals:=by
            rw[hres];clear hub hcb hcmp hF;simp_all[aE,bX,aF];try omega
          refine a7.at bC (fun k:Nat=>1<=k/\k<=max 1 vals.length/\∀(j:Nat) (a b:bB),j+1<k->vals[j]? = some a->vals[j+1]? = some b->cN a b<0)
            (fun k=>⟨[(3,.ptr 0 0 0),(9,.int .i64 k)],[(0,.row 62 12 [bU ⟨0,name,lo,hi,ws,ls,vals,kids,.mk vk vn vs vks⟩])],1,136⟩) (fun k=>vals.length-k) 1 [(0,0)] ⟨by omega,by omega,fun j a b hj=>by omega⟩
            (aJ _ rfl ⟨⟨0,_,rfl,rfl,.same (.cons (aW _) .nil)⟩,trivial⟩ ⟨⟨_,rfl,.ptr 0 0 0 0 rfl⟩,aH,trivial⟩) ?_
          rintro k ⟨hk1,hk2,hall⟩;((conv=>whnf);repeat(refine Xg ?_;conv=>whnf));refine aO (fun h=>?_) (fun h=>?_)
          · have hlt:k<vals.length:=FU h
            obtain⟨p1,p2,p3,p4,pm,pg,-,ep⟩:=cL (l:=vals) (k:=k-1) (by omega);obtain⟨q1,q2,q3,q4,qm,qg,-,eq⟩:=cL (l:=vals) (k:=k) hlt;have hw1:IntKind.i64.wrap ((k:Int)-1)=((k-1:Nat):Int):=w64 (by omega) ⟨by omega,by omega⟩;have hc:=hcmp _ pm (.mk q1 q2 q3 q4);obtain⟨c,hc0⟩:∃c,c=cN (.mk p1 p2 p3 p4) (.mk q1 q2 q3 q4):=⟨_,rfl⟩
            rw[←hc0] at hc;((conv=>whnf);repeat(refine Xg ?_;conv=>whnf));rw[hw1];((conv=>whnf);repeat(refine Xg ?_;conv=>whnf));repeat((first|refine aC ep ?_|refine aC eq ?_|refine aD ?_);(conv=>whnf);repeat(refine Xg ?_;conv=>whnf))
            refine hc.go ?_;((conv=>whnf);repeat(refine Xg ?_;conv=>whnf));repeat((first|refine aC ep ?_|refine aC eq ?_|refine aD ?_);(conv=>whnf);repeat(refine Xg ?_;conv=>whnf))
            refine aO (fun h=>?_) (fun h=>?_)
            · ((conv=>whnf);repeat(refine Xg ?_;conv=>whnf))
              refine aA nn ⟨hF ?_,rfl,rfl⟩;intro e;rw[hrs] at e;have:=jR e (k-1) _ _ pg (by rw[show k-1+1=k by omega];exact qg);rw[←hc0] at this;simp at h;omega
            · ((conv=>whnf);repeat(refine Xg ?_;conv=>whnf))
              refine .mk (k+1) [(0,0)] ⟨by omega,by omega,fun j a b hj ha hb=>?_⟩ (aJ _ rfl ⟨⟨0,_,rfl,rfl,.same (.cons (aW _) .nil)⟩,trivial⟩ ⟨⟨_,rfl,.ptr 0 0 0 0 rfl⟩,⟨_,rfl,.wo⟩,trivial⟩) (by omega);rcases R9 (j+1) k with hj'|hj'
              · exact hall j a b hj' ha hb
              · have hjk:j=k-1:=by omega
                rw[hjk,pg] at ha;rw[hjk,show k-1+1=k by omega,qg] at hb;cases ha;cases hb;rw[←hc0];simpa using h
          · have hge:vals.length<=k:=Eu h
            ((conv=>whnf);repeat(refine Xg ?_;conv=>whnf));refine aA nn ⟨?_,rfl,rfl⟩;rw[hrs,jS fun j a b ha hb=>hall j a b (by have:=(Rt.1 hb).1;omega) ha hb]
  · ((conv=>whnf);repeat(refine Xg ?_;conv=>whnf))
    refine hub.go ?_ (.cons (aW _) .nil);cases ub with
    | false=>
      ((conv=>whnf);repeat(refine Xg ?_;conv=>whnf));exact aA nn ⟨hF (by intro e;rw[hres] at e;simp at e),rfl,rfl⟩
    | true=>
      ((conv=>whnf);repeat(refine Xg ?_;conv=>whnf));refine a7.at bC (fun k:Nat=>k<=kids.length/\∀(j:Nat) (q:Int),j<k->kids[j]? = some q->0<=q/\q<i)
        (fun k=>⟨[(0,.int .i64 i),(3,.ptr 0 0 0),(6,.int .i64 k)],[(0,.row 62 12 [bU ⟨1,name,lo,hi,ws,ls,vals,kids,.mk vk vn vs vks⟩])],1,136⟩) (fun k=>kids.length-k) 0 [(0,0)] ⟨by simp,by simp⟩
        (aJ _ rfl ⟨⟨0,_,rfl,rfl,.same (.cons (aW _) .nil)⟩,trivial⟩ ⟨aH,⟨_,rfl,.ptr 0 0 0 0 rfl⟩,aH,trivial⟩) ?_
      rintro k ⟨hk,hall⟩;((conv=>whnf);repeat(refine Xg ?_;conv=>whnf));refine aO (fun h=>?_) (fun h=>?_)
      · have hlt:k<kids.length:=by rw[aE] at h;simpa using h
        have e1:(aI kids)[(k:Int).toNat]? = some (.int .i64 kids[k]):=by rw[Rq,bG,Rm hlt];rfl
        have hg:kids[k]? = some kids[k]:=Rm hlt;generalize kids[k]=q at e1 hg;have hbad:(0<=q/\q<i->False)->AV.bool false=AV.bool res:=fun hb=>hF (by
          intro e;rw[hres] at e;simp only[Rr] at e;exact hb (eP.1 e.1.1.1.1.2 k q hg))
        ((conv=>whnf);repeat(refine Xg ?_;conv=>whnf));refine aC e1 ?_;((conv=>whnf);repeat(refine Xg ?_;conv=>whnf));refine aO (fun h=>?_) (fun h=>?_)
        · rw[h]
          ((conv=>whnf);repeat(refine Xg ?_;conv=>whnf));exact aA nn ⟨hbad (by simp at h;omega),rfl,rfl⟩
        · have g1:0<=q:=by simpa using h
          rw[h];((conv=>whnf);repeat(refine Xg ?_;conv=>whnf));refine aC e1 ?_;((conv=>whnf);repeat(refine Xg ?_;conv=>whnf));refine aO (fun h=>?_) (fun h=>?_)
          · ((conv=>whnf);repeat(refine Xg ?_;conv=>whnf))
            exact aA nn ⟨hbad (by simp at h;omega),rfl,rfl⟩
          · have g2:q<i:=by simpa using h
            ((conv=>whnf);repeat(refine Xg ?_;conv=>whnf));refine .mk (k+1) [(0,0)] ⟨by omega,fun j w2 hj hw2=>?_⟩ (aJ _ rfl ⟨⟨0,_,rfl,rfl,.same (.cons (aW _) .nil)⟩,trivial⟩ ⟨aH,⟨_,rfl,.ptr 0 0 0 0 rfl⟩,⟨_,rfl,.wo⟩,trivial⟩) (by omega);rcases R9 j k with hj'|hj'
            · exact hall j w2 hj' hw2
            · have hjk:j=k:=by omega
              rw[hjk,hg] at hw2;cases hw2;exact⟨g1,g2⟩
      · have hk':k=kids.length:=by rw[aE] at h;simp at h;omega
        have hkin:mS i kids=true:=eP.2 fun j q hj=>hall j q (by rw[hk'];exact(Rt.1 hj).1) hj
        clear hall h hk hk';((conv=>whnf);repeat(refine Xg ?_;conv=>whnf));repeat' (refine aO (fun h=>?_) (fun h=>?_)<;>((try rw[h]);(conv=>whnf);repeat(refine Xg ?_;conv=>whnf)))
        all_goals first
          | exact aA nn ⟨hF (by
              intro e;rw[hres] at e;clear hub hcb hcmp hF;simp_all[aE,bX];try omega),rfl,rfl⟩
          | (refine hcb.go ?_
             cases cb<;>((conv=>whnf);repeat(refine Xg ?_;conv=>whnf))<;>(repeat' (refine aO (fun h=>?_) (fun h=>?_)<;>((try rw[h]);(conv=>whnf);repeat(refine Xg ?_;conv=>whnf)))))
        all_goals first
          | exact aA nn ⟨hF (by
              intro e;rw[hres] at e;clear hub hcb hcmp hF;simp_all[aE,bX,aF];try omega),rfl,rfl⟩
          | skip
        all_goals
          have hrs:res=eE vals:=by
            rw[hres];clear hub hcb hcmp hF;simp_all[aE,bX,aF];try omega
          refine a7.at bC (fun k:Nat=>1<=k/\k<=max 1 vals.length/\∀(j:Nat) (a b:bB),j+1<k->vals[j]? = some a->vals[j+1]? = some b->cN a b<0)
            (fun k=>⟨[(3,.ptr 0 0 0),(9,.int .i64 k)],[(0,.row 62 12 [bU ⟨1,name,lo,hi,ws,ls,vals,kids,.mk vk vn vs vks⟩])],1,136⟩) (fun k=>vals.length-k) 1 [(0,0)] ⟨by omega,by omega,fun j a b hj=>by omega⟩
            (aJ _ rfl ⟨⟨0,_,rfl,rfl,.same (.cons (aW _) .nil)⟩,trivial⟩ ⟨⟨_,rfl,.ptr 0 0 0 0 rfl⟩,aH,trivial⟩) ?_
          rintro k ⟨hk1,hk2,hall⟩;((conv=>whnf);repeat(refine Xg ?_;conv=>whnf));refine aO (fun h=>?_) (fun h=>?_)
          · have hlt:k<vals.length:=FU h
            obtain⟨p1,p2,p3,p4,pm,pg,-,ep⟩:=cL (l:=vals) (k:=k-1) (by omega);obtain⟨q1,q2,q3,q4,qm,qg,-,eq⟩:=cL (l:=vals) (k:=k) hlt;have hw1:IntKind.i64.wrap ((k:Int)-1)=((k-1:Nat):Int):=w64 (by omega) ⟨by omega,by omega⟩;have hc:=hcmp _ pm (.mk q1 q2 q3 q4);obtain⟨c,hc0⟩:∃c,c=cN (.mk p1 p2 p3 p4) (.mk q1 q2 q3 q4):=⟨_,rfl⟩
            rw[←hc0] at hc;((conv=>whnf);repeat(refine Xg ?_;conv=>whnf));rw[hw1];((conv=>whnf);repeat(refine Xg ?_;conv=>whnf));repeat((first|refine aC ep ?_|refine aC eq ?_|refine aD ?_);(conv=>whnf);repeat(refine Xg ?_;conv=>whnf))
            refine hc.go ?_;((conv=>whnf);repeat(refine Xg ?_;conv=>whnf));repeat((first|refine aC ep ?_|refine aC eq ?_|refine aD ?_);(conv=>whnf);repeat(refine Xg ?_;conv=>whnf))
            refine aO (fun h=>?_) (fun h=>?_)
            · ((conv=>whnf);repeat(refine Xg ?_;conv=>whnf))
              refine aA nn ⟨hF ?_,rfl,rfl⟩;intro e;rw[hrs] at e;have:=jR e (k-1) _ _ pg (by rw[show k-1+1=k by omega];exact qg);rw[←hc0] at this;simp at h;omega
            · ((conv=>whnf);repeat(refine Xg ?_;conv=>whnf))
              refine .mk (k+1) [(0,0)] ⟨by omega,by omega,fun j a b hj ha hb=>?_⟩ (aJ _ rfl ⟨⟨0,_,rfl,rfl,.same (.cons (aW _) .nil)⟩,trivial⟩ ⟨⟨_,rfl,.ptr 0 0 0 0 rfl⟩,⟨_,rfl,.wo⟩,trivial⟩) (by omega);rcases R9 (j+1) k with hj'|hj'
              · exact hall j a b hj' ha hb
              · have hjk:j=k-1:=by omega
                rw[hjk,pg] at ha;rw[hjk,show k-1+1=k by omega,qg] at hb;cases ha;cases hb;rw[←hc0];simpa using h
          · have hge:vals.length<=k:=Eu h
            ((conv=>whnf);repeat(refine Xg ?_;conv=>whnf));refine aA nn ⟨?_,rfl,rfl⟩;rw[hrs,jS fun j a b ha hb=>hall j a b (by have:=(Rt.1 hb).1;omega) ha hb]
  · ((conv=>whnf);repeat(refine Xg ?_;conv=>whnf))
    refine hub.go ?_ (.cons (aW _) .nil);cases ub with
    | false=>
      ((conv=>whnf);repeat(refine Xg ?_;conv=>whnf));exact aA nn ⟨hF (by intro e;rw[hres] at e;simp at e),rfl,rfl⟩
    | true=>
      ((conv=>whnf);repeat(refine Xg ?_;conv=>whnf));refine a7.at bC (fun k:Nat=>k<=kids.length/\∀(j:Nat) (q:Int),j<k->kids[j]? = some q->0<=q/\q<i)
        (fun k=>⟨[(0,.int .i64 i),(3,.ptr 0 0 0),(6,.int .i64 k)],[(0,.row 62 12 [bU ⟨2,name,lo,hi,ws,ls,vals,kids,.mk vk vn vs vks⟩])],1,136⟩) (fun k=>kids.length-k) 0 [(0,0)] ⟨by simp,by simp⟩
        (aJ _ rfl ⟨⟨0,_,rfl,rfl,.same (.cons (aW _) .nil)⟩,trivial⟩ ⟨aH,⟨_,rfl,.ptr 0 0 0 0 rfl⟩,aH,trivial⟩) ?_
      rintro k ⟨hk,hall⟩;((conv=>whnf);repeat(refine Xg ?_;conv=>whnf));refine aO (fun h=>?_) (fun h=>?_)
      · have hlt:k<kids.length:=by rw[aE] at h;simpa using h
        have e1:(aI kids)[(k:Int).toNat]? = some (.int .i64 kids[k]):=by rw[Rq,bG,Rm hlt];rfl
        have hg:kids[k]? = some kids[k]:=Rm hlt;generalize kids[k]=q at e1 hg;have hbad:(0<=q/\q<i->False)->AV.bool false=AV.bool res:=fun hb=>hF (by
          intro e;rw[hres] at e;simp only[Rr] at e;exact hb (eP.1 e.1.1.1.1.2 k q hg))
        ((conv=>whnf);repeat(refine Xg ?_;conv=>whnf));refine aC e1 ?_;((conv=>whnf);repeat(refine Xg ?_;conv=>whnf));refine aO (fun h=>?_) (fun h=>?_)
        · rw[h]
          ((conv=>whnf);repeat(refine Xg ?_;conv=>whnf));exact aA nn ⟨hbad (by simp at h;omega),rfl,rfl⟩
        · have g1:0<=q:=by simpa using h
          rw[h];((conv=>whnf);repeat(refine Xg ?_;conv=>whnf));refine aC e1 ?_;((conv=>whnf);repeat(refine Xg ?_;conv=>whnf));refine aO (fun h=>?_) (fun h=>?_)
          · ((conv=>whnf);repeat(refine Xg ?_;conv=>whnf))
            exact aA nn ⟨hbad (by simp at h;omega),rfl,rfl⟩
          · have g2:q<i:=by simpa using h
            ((conv=>whnf);repeat(refine Xg ?_;conv=>whnf));refine .mk (k+1) [(0,0)] ⟨by omega,fun j w2 hj hw2=>?_⟩ (aJ _ rfl ⟨⟨0,_,rfl,rfl,.same (.cons (aW _) .nil)⟩,trivial⟩ ⟨aH,⟨_,rfl,.ptr 0 0 0 0 rfl⟩,⟨_,rfl,.wo⟩,trivial⟩) (by omega);rcases R9 j k with hj'|hj'
            · exact hall j w2 hj' hw2
            · have hjk:j=k:=by omega
              rw[hjk,hg] at hw2;cases hw2;exact⟨g1,g2⟩
      · have hk':k=kids.length:=by rw[aE] at h;simp at h;omega
        have hkin:mS i kids=true:=eP.2 fun j q hj=>hall j q (by rw[hk'];exact(Rt.1 hj).1) hj
        clear hall h hk hk';((conv=>whnf);repeat(refine Xg ?_;conv=>whnf));repeat' (refine aO (fun h=>?_) (fun h=>?_)<;>((try rw[h]);(conv=>whnf);repeat(refine Xg ?_;conv=>whnf)))
        all_goals first
          | exact aA nn ⟨hF (by
              intro e;rw[hres] at e;clear hub hcb hcmp hF;simp_all[aE,bX];try omega),rfl,rfl⟩
          | (refine hcb.go ?_
             cases cb<;>((conv=>whnf);repeat(refine Xg ?_;conv=>whnf))<;>(repeat' (refine aO (fun h=>?_) (fun h=>?_)<;>((try rw[h]);(conv=>whnf);repeat(refine Xg ?_;conv=>whnf)))))
        all_goals first
          | exact aA nn ⟨hF (by
              intro e;rw[hres] at e;clear hub hcb hcmp hF;simp_all[aE,bX,aF];try omega),rfl,rfl⟩
          | skip
        all_goals
          have hrs:res=eE vals:=by
            rw[hres];clear hub hcb hcmp hF;simp_all[aE,bX,aF];try omega
          refine a7.at bC (fun k:Nat=>1<=k/\k<=max 1 vals.length/\∀(j:Nat) (a b:bB),j+1<k->vals[j]? = some a->vals[j+1]? = some b->cN a b<0)
            (fun k=>⟨[(3,.ptr 0 0 0),(9,.int .i64 k)],[(0,.row 62 12 [bU ⟨2,name,lo,hi,ws,ls,vals,kids,.mk vk vn vs vks⟩])],1,136⟩) (fun k=>vals.length-k) 1 [(0,0)] ⟨by omega,by omega,fun j a b hj=>by omega⟩
            (aJ _ rfl ⟨⟨0,_,rfl,rfl,.same (.cons (aW _) .nil)⟩,trivial⟩ ⟨⟨_,rfl,.ptr 0 0 0 0 rfl⟩,aH,trivial⟩) ?_
          rintro k ⟨hk1,hk2,hall⟩;((conv=>whnf);repeat(refine Xg ?_;conv=>whnf));refine aO (fun h=>?_) (fun h=>?_)
          · have hlt:k<vals.length:=FU h
            obtain⟨p1,p2,p3,p4,pm,pg,-,ep⟩:=cL (l:=vals) (k:=k-1) (by omega);obtain⟨q1,q2,q3,q4,qm,qg,-,eq⟩:=cL (l:=vals) (k:=k) hlt;have hw1:IntKind.i64.wrap ((k:Int)-1)=((k-1:Nat):Int):=w64 (by omega) ⟨by omega,by omega⟩;have hc:=hcmp _ pm (.mk q1 q2 q3 q4);obtain⟨c,hc0⟩:∃c,c=cN (.mk p1 p2 p3 p4) (.mk q1 q2 q3 q4):=⟨_,rfl⟩
            rw[←hc0] at hc;((conv=>whnf);repeat(refine Xg ?_;conv=>whnf));rw[hw1];((conv=>whnf);repeat(refine Xg ?_;conv=>whnf));repeat((first|refine aC ep ?_|refine aC eq ?_|refine aD ?_);(conv=>whnf);repeat(refine Xg ?_;conv=>whnf))
            refine hc.go ?_;((conv=>whnf);repeat(refine Xg ?_;conv=>whnf));repeat((first|refine aC ep ?_|refine aC eq ?_|refine aD ?_);(conv=>whnf);repeat(refine Xg ?_;conv=>whnf))
            refine aO (fun h=>?_) (fun h=>?_)
            · ((conv=>whnf);repeat(refine Xg ?_;conv=>whnf))
              refine aA nn ⟨hF ?_,rfl,rfl⟩;intro e;rw[hrs] at e;have:=jR e (k-1) _ _ pg (by rw[show k-1+1=k by omega];exact qg);rw[←hc0] at this;simp at h;omega
            · ((conv=>whnf);repeat(refine Xg ?_;conv=>whnf))
              refine .mk (k+1) [(0,0)] ⟨by omega,by omega,fun j a b hj ha hb=>?_⟩ (aJ _ rfl ⟨⟨0,_,rfl,rfl,.same (.cons (aW _) .nil)⟩,trivial⟩ ⟨⟨_,rfl,.ptr 0 0 0 0 rfl⟩,⟨_,rfl,.wo⟩,trivial⟩) (by omega);rcases R9 (j+1) k with hj'|hj'
              · exact hall j a b hj' ha hb
              · have hjk:j=k-1:=by omega
                rw[hjk,pg] at ha;rw[hjk,show k-1+1=k by omega,qg] at hb;cases ha;cases hb;rw[←hc0];simpa using h
          · have hge:vals.length<=k:=Eu h
            ((conv=>whnf);repeat(refine Xg ?_;conv=>whnf));refine aA nn ⟨?_,rfl,rfl⟩;rw[hrs,jS fun j a b ha hb=>hall j a b (by have:=(Rt.1 hb).1;omega) ha hb]
  · ((conv=>whnf);repeat(refine Xg ?_;conv=>whnf))
    refine hub.go ?_ (.cons (aW _) .nil);cases ub with
    | false=>
      ((conv=>whnf);repeat(refine Xg ?_;conv=>whnf));exact aA nn ⟨hF (by intro e;rw[hres] at e;simp at e),rfl,rfl⟩
    | true=>
      ((conv=>whnf);repeat(refine Xg ?_;conv=>whnf));refine a7.at bC (fun k:Nat=>k<=kids.length/\∀(j:Nat) (q:Int),j<k->kids[j]? = some q->0<=q/\q<i)
        (fun k=>⟨[(0,.int .i64 i),(3,.ptr 0 0 0),(6,.int .i64 k)],[(0,.row 62 12 [bU ⟨3,name,lo,hi,ws,ls,vals,kids,.mk vk vn vs vks⟩])],1,136⟩) (fun k=>kids.length-k) 0 [(0,0)] ⟨by simp,by simp⟩
        (aJ _ rfl ⟨⟨0,_,rfl,rfl,.same (.cons (aW _) .nil)⟩,trivial⟩ ⟨aH,⟨_,rfl,.ptr 0 0 0 0 rfl⟩,aH,trivial⟩) ?_
      rintro k ⟨hk,hall⟩;((conv=>whnf);repeat(refine Xg ?_;conv=>whnf));refine aO (fun h=>?_) (fun h=>?_)
      · have hlt:k<kids.length:=by rw[aE] at h;simpa using h
        have e1:(aI kids)[(k:Int).toNat]? = some (.int .i64 kids[k]):=by rw[Rq,bG,Rm hlt];rfl
        have hg:kids[k]? = some kids[k]:=Rm hlt;generalize kids[k]=q at e1 hg;have hbad:(0<=q/\q<i->False)->AV.bool false=AV.bool res:=fun hb=>hF (by
          intro e;rw[hres] at e;simp only[Rr] at e;exact hb (eP.1 e.1.1.1.1.2 k q hg))
        ((conv=>whnf);repeat(refine Xg ?_;conv=>whnf));refine aC e1 ?_;((conv=>whnf);repeat(refine Xg ?_;conv=>whnf));refine aO (fun h=>?_) (fun h=>?_)
        · rw[h]
          ((conv=>whnf);repeat(refine Xg ?_;conv=>whnf));exact aA nn ⟨hbad (by simp at h;omega),rfl,rfl⟩
        · have g1:0<=q:=by simpa using h
          rw[h];((conv=>whnf);repeat(refine Xg ?_;conv=>whnf));refine aC e1 ?_;((conv=>whnf);repeat(refine Xg ?_;conv=>whnf));refine aO (fun h=>?_) (fun h=>?_)
          · ((conv=>whnf);repeat(refine Xg ?_;conv=>whnf))
            exact aA nn ⟨hbad (by simp at h;omega),rfl,rfl⟩
          · have g2:q<i:=by simpa using h
            ((conv=>whnf);repeat(refine Xg ?_;conv=>whnf));refine .mk (k+1) [(0,0)] ⟨by omega,fun j w2 hj hw2=>?_⟩ (aJ _ rfl ⟨⟨0,_,rfl,rfl,.same (.cons (aW _) .nil)⟩,trivial⟩ ⟨aH,⟨_,rfl,.ptr 0 0 0 0 rfl⟩,⟨_,rfl,.wo⟩,trivial⟩) (by omega);rcases R9 j k with hj'|hj'
            · exact hall j w2 hj' hw2
            · have hjk:j=k:=by omega
              rw[hjk,hg] at hw2;cases hw2;exact⟨g1,g2⟩
      · have hk':k=kids.length:=by rw[aE] at h;simp at h;omega
        have hkin:mS i kids=true:=eP.2 fun j q hj=>hall j q (by rw[hk'];exact(Rt.1 hj).1) hj
        clear hall h hk hk';((conv=>whnf);repeat(refine Xg ?_;conv=>whnf));repeat' (refine aO (fun h=>?_) (fun h=>?_)<;>((try rw[h]);(conv=>whnf);repeat(refine Xg ?_;conv=>whnf)))
        all_goals first
          | exact aA nn ⟨hF (by
              intro e;rw[hres] at e;clear hub hcb hcmp hF;simp_all[aE,bX];try omega),rfl,rfl⟩
          | (refine hcb.go ?_
             cases cb<;>((conv=>whnf);repeat(refine Xg ?_;conv=>whnf))<;>(repeat' (refine aO (fun h=>?_) (fun h=>?_)<;>((try rw[h]);(conv=>whnf);repeat(refine Xg ?_;conv=>whnf)))))
        all_goals first
          | exact aA nn ⟨hF (by
              intro e;rw[hres] at e;clear hub hcb hcmp hF;simp_all[aE,bX,aF];try omega),rfl,rfl⟩
          | skip
        all_goals
          have hrs:res=eE vals:=by
            rw[hres];clear hub hcb hcmp hF;simp_all[aE,bX,aF];try omega
          refine a7.at bC (fun k:Nat=>1<=k/\k<=max 1 vals.length/\∀(j:Nat) (a b:bB),j+1<k->vals[j]? = some a->vals[j+1]? = some b->cN a b<0)
            (fun k=>⟨[(3,.ptr 0 0 0),(9,.int .i64 k)],[(0,.row 62 12 [bU ⟨3,name,lo,hi,ws,ls,vals,kids,.mk vk vn vs vks⟩])],1,136⟩) (fun k=>vals.length-k) 1 [(0,0)] ⟨by omega,by omega,fun j a b hj=>by omega⟩
            (aJ _ rfl ⟨⟨0,_,rfl,rfl,.same (.cons (aW _) .nil)⟩,trivial⟩ ⟨⟨_,rfl,.ptr 0 0 0 0 rfl⟩,aH,trivial⟩) ?_
          rintro k ⟨hk1,hk2,hall⟩;((conv=>whnf);repeat(refine Xg ?_;conv=>whnf));refine aO (fun h=>?_) (fun h=>?_)
          · have hlt:k<vals.length:=FU h
            obtain⟨p1,p2,p3,p4,pm,pg,-,ep⟩:=cL (l:=vals) (k:=k-1) (by omega);obtain⟨q1,q2,q3,q4,qm,qg,-,eq⟩:=cL (l:=vals) (k:=k) hlt;have hw1:IntKind.i64.wrap ((k:Int)-1)=((k-1:Nat):Int):=w64 (by omega) ⟨by omega,by omega⟩;have hc:=hcmp _ pm (.mk q1 q2 q3 q4);obtain⟨c,hc0⟩:∃c,c=cN (.mk p1 p2 p3 p4) (.mk q1 q2 q3 q4):=⟨_,rfl⟩
            rw[←hc0] at hc;((conv=>whnf);repeat(refine Xg ?_;conv=>whnf));rw[hw1];((conv=>whnf);repeat(refine Xg ?_;conv=>whnf));repeat((first|refine aC ep ?_|refine aC eq ?_|refine aD ?_);(conv=>whnf);repeat(refine Xg ?_;conv=>whnf))
            refine hc.go ?_;((conv=>whnf);repeat(refine Xg ?_;conv=>whnf));repeat((first|refine aC ep ?_|refine aC eq ?_|refine aD ?_);(conv=>whnf);repeat(refine Xg ?_;conv=>whnf))
            refine aO (fun h=>?_) (fun h=>?_)
            · ((conv=>whnf);repeat(refine Xg ?_;conv=>whnf))
              refine aA nn ⟨hF ?_,rfl,rfl⟩;intro e;rw[hrs] at e;have:=jR e (k-1) _ _ pg (by rw[show k-1+1=k by omega];exact qg);rw[←hc0] at this;simp at h;omega
            · ((conv=>whnf);repeat(refine Xg ?_;conv=>whnf))
              refine .mk (k+1) [(0,0)] ⟨by omega,by omega,fun j a b hj ha hb=>?_⟩ (aJ _ rfl ⟨⟨0,_,rfl,rfl,.same (.cons (aW _) .nil)⟩,trivial⟩ ⟨⟨_,rfl,.ptr 0 0 0 0 rfl⟩,⟨_,rfl,.wo⟩,trivial⟩) (by omega);rcases R9 (j+1) k with hj'|hj'
              · exact hall j a b hj' ha hb
              · have hjk:j=k-1:=by omega
                rw[hjk,pg] at ha;rw[hjk,show k-1+1=k by omega,qg] at hb;cases ha;cases hb;rw[←hc0];simpa using h
          · have hge:vals.length<=k:=Eu h
            ((conv=>whnf);repeat(refine Xg ?_;conv=>whnf));refine aA nn ⟨?_,rfl,rfl⟩;rw[hrs,jS fun j a b ha hb=>hall j a b (by have:=(Rt.1 hb).1;omega) ha hb]
  · ((conv=>whnf);repeat(refine Xg ?_;conv=>whnf))
    refine hub.go ?_ (.cons (aW _) .nil);cases ub with
    | false=>
      ((conv=>whnf);repeat(refine Xg ?_;conv=>whnf));exact aA nn ⟨hF (by intro e;rw[hres] at e;simp at e),rfl,rfl⟩
    | true=>
      ((conv=>whnf);repeat(refine Xg ?_;conv=>whnf));refine a7.at bC (fun k:Nat=>k<=kids.length/\∀(j:Nat) (q:Int),j<k->kids[j]? = some q->0<=q/\q<i)
        (fun k=>⟨[(0,.int .i64 i),(3,.ptr 0 0 0),(6,.int .i64 k)],[(0,.row 62 12 [bU ⟨4,name,lo,hi,ws,ls,vals,kids,.mk vk vn vs vks⟩])],1,136⟩) (fun k=>kids.length-k) 0 [(0,0)] ⟨by simp,by simp⟩
        (aJ _ rfl ⟨⟨0,_,rfl,rfl,.same (.cons (aW _) .nil)⟩,trivial⟩ ⟨aH,⟨_,rfl,.ptr 0 0 0 0 rfl⟩,aH,trivial⟩) ?_
      rintro k ⟨hk,hall⟩;((conv=>whnf);repeat(refine Xg ?_;conv=>whnf));refine aO (fun h=>?_) (fun h=>?_)
      · have hlt:k<kids.length:=by rw[aE] at h;simpa using h
        have e1:(aI kids)[(k:Int).toNat]? = some (.int .i64 kids[k]):=by rw[Rq,bG,Rm hlt];rfl
        have hg:kids[k]? = some kids[k]:=Rm hlt;generalize kids[k]=q at e1 hg;have hbad:(0<=q/\q<i->False)->AV.bool false=AV.bool res:=fun hb=>hF (by
          intro e;rw[hres] at e;simp only[Rr] at e;exact hb (eP.1 e.1.1.1.1.2 k q hg))
        ((conv=>whnf);repeat(refine Xg ?_;conv=>whnf));refine aC e1 ?_;((conv=>whnf);repeat(refine Xg ?_;conv=>whnf));refine aO (fun h=>?_) (fun h=>?_)
        · rw[h]
          ((conv=>whnf);repeat(refine Xg ?_;conv=>whnf));exact aA nn ⟨hbad (by simp at h;omega),rfl,rfl⟩
        · have g1:0<=q:=by simpa using h
          rw[h];((conv=>whnf);repeat(refine Xg ?_;conv=>whnf));refine aC e1 ?_;((conv=>whnf);repeat(refine Xg ?_;conv=>whnf));refine aO (fun h=>?_) (fun h=>?_)
          · ((conv=>whnf);repeat(refine Xg ?_;conv=>whnf))
            exact aA nn ⟨hbad (by simp at h;omega),rfl,rfl⟩
          · have g2:q<i:=by simpa using h
            ((conv=>whnf);repeat(refine Xg ?_;conv=>whnf));refine .mk (k+1) [(0,0)] ⟨by omega,fun j w2 hj hw2=>?_⟩ (aJ _ rfl ⟨⟨0,_,rfl,rfl,.same (.cons (aW _) .nil)⟩,trivial⟩ ⟨aH,⟨_,rfl,.ptr 0 0 0 0 rfl⟩,⟨_,rfl,.wo⟩,trivial⟩) (by omega);rcases R9 j k with hj'|hj'
            · exact hall j w2 hj' hw2
            · have hjk:j=k:=by omega
              rw[hjk,hg] at hw2;cases hw2;exact⟨g1,g2⟩
      · have hk':k=kids.length:=by rw[aE] at h;simp at h;omega
        have hkin:mS i kids=true:=eP.2 fun j q hj=>hall j q (by rw[hk'];exact(Rt.1 hj).1) hj
        clear hall h hk hk';((conv=>whnf);repeat(refine Xg ?_;conv=>whnf));repeat' (refine aO (fun h=>?_) (fun h=>?_)<;>((try rw[h]);(conv=>whnf);repeat(refine Xg ?_;conv=>whnf)))
        all_goals first
          | exact aA nn ⟨hF (by
              intro e;rw[hres] at e;clear hub hcb hcmp hF;simp_all[aE,bX];try omega),rfl,rfl⟩
          | (refine hcb.go ?_
             cases cb<;>((conv=>whnf);repeat(refine Xg ?_;conv=>whnf))<;>(repeat' (refine aO (fun h=>?_) (fun h=>?_)<;>((try rw[h]);(conv=>whnf);repeat(refine Xg ?_;conv=>whnf)))))
        all_goals first
          | exact aA nn ⟨hF (by
              intro e;rw[hres] at e;clear hub hcb hcmp hF;simp_all[aE,bX,aF];try omega),rfl,rfl⟩
          | skip
        all_goals
          have hrs:res=eE vals:=by
            rw[hres];clear hub hcb hcmp hF;simp_all[aE,bX,aF];try omega
          refine a7.at bC (fun k:Nat=>1<=k/\k<=max 1 vals.length/\∀(j:Nat) (a b:bB),j+1<k->vals[j]? = some a->vals[j+1]? = some b->cN a b<0)
            (fun k=>⟨[(3,.ptr 0 0 0),(9,.int .i64 k)],[(0,.row 62 12 [bU ⟨4,name,lo,hi,ws,ls,vals,kids,.mk vk vn vs vks⟩])],1,136⟩) (fun k=>vals.length-k) 1 [(0,0)] ⟨by omega,by omega,fun j a b hj=>by omega⟩
            (aJ _ rfl ⟨⟨0,_,rfl,rfl,.same (.cons (aW _) .nil)⟩,trivial⟩ ⟨⟨_,rfl,.ptr 0 0 0 0 rfl⟩,aH,trivial⟩) ?_
          rintro k ⟨hk1,hk2,hall⟩;((conv=>whnf);repeat(refine Xg ?_;conv=>whnf));refine aO (fun h=>?_) (fun h=>?_)
          · have hlt:k<vals.length:=FU h
            obtain⟨p1,p2,p3,p4,pm,pg,-,ep⟩:=cL (l:=vals) (k:=k-1) (by omega);obtain⟨q1,q2,q3,q4,qm,qg,-,eq⟩:=cL (l:=vals) (k:=k) hlt;have hw1:IntKind.i64.wrap ((k:Int)-1)=((k-1:Nat):Int):=w64 (by omega) ⟨by omega,by omega⟩;have hc:=hcmp _ pm (.mk q1 q2 q3 q4);obtain⟨c,hc0⟩:∃c,c=cN (.mk p1 p2 p3 p4) (.mk q1 q2 q3 q4):=⟨_,rfl⟩
            rw[←hc0] at hc;((conv=>whnf);repeat(refine Xg ?_;conv=>whnf));rw[hw1];((conv=>whnf);repeat(refine Xg ?_;conv=>whnf));repeat((first|refine aC ep ?_|refine aC eq ?_|refine aD ?_);(conv=>whnf);repeat(refine Xg ?_;conv=>whnf))
            refine hc.go ?_;((conv=>whnf);repeat(refine Xg ?_;conv=>whnf));repeat((first|refine aC ep ?_|refine aC eq ?_|refine aD ?_);(conv=>whnf);repeat(refine Xg ?_;conv=>whnf))
            refine aO (fun h=>?_) (fun h=>?_)
            · ((conv=>whnf);repeat(refine Xg ?_;conv=>whnf))
              refine aA nn ⟨hF ?_,rfl,rfl⟩;intro e;rw[hrs] at e;have:=jR e (k-1) _ _ pg (by rw[show k-1+1=k by omega];exact qg);rw[←hc0] at this;simp at h;omega
            · ((conv=>whnf);repeat(refine Xg ?_;conv=>whnf))
              refine .mk (k+1) [(0,0)] ⟨by omega,by omega,fun j a b hj ha hb=>?_⟩ (aJ _ rfl ⟨⟨0,_,rfl,rfl,.same (.cons (aW _) .nil)⟩,trivial⟩ ⟨⟨_,rfl,.ptr 0 0 0 0 rfl⟩,⟨_,rfl,.wo⟩,trivial⟩) (by omega);rcases R9 (j+1) k with hj'|hj'
              · exact hall j a b hj' ha hb
              · have hjk:j=k-1:=by omega
                rw[hjk,pg] at ha;rw[hjk,show k-1+1=k by omega,qg] at hb;cases ha;cases hb;rw[←hc0];simpa using h
          · have hge:vals.length<=k:=Eu h
            ((conv=>whnf);repeat(refine Xg ?_;conv=>whnf));refine aA nn ⟨?_,rfl,rfl⟩;rw[hrs,jS fun j a b ha hb=>hall j a b (by have:=(Rt.1 hb).1;omega) ha hb]
  · ((conv=>whnf);repeat(refine Xg ?_;conv=>whnf))
    refine hub.go ?_ (.cons (aW _) .nil);cases ub with
    | false=>
      ((conv=>whnf);repeat(refine Xg ?_;conv=>whnf));exact aA nn ⟨hF (by intro e;rw[hres] at e;simp at e),rfl,rfl⟩
    | true=>
      ((conv=>whnf);repeat(refine Xg ?_;conv=>whnf));repeat' (refine aO (fun h=>?_) (fun h=>?_)<;>((try rw[h]);(conv=>whnf);repeat(refine Xg ?_;conv=>whnf)))
      all_goals first
        | exact aA nn ⟨hF (by intro e;rw[hres] at e;simp at e;omega),rfl,rfl⟩
        | (exfalso
           simp at *;omega)
end Go.Proofs.YthempfhilcmfnaaGreat
