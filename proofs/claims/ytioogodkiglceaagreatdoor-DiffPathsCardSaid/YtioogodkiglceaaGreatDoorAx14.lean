/- A part of the proof. -/
import Derived.Test.YtioogodkiglceaaGreatDoorAx13
set_option linter.unusedVariables false
set_option linter.unusedSimpArgs false
set_option linter.unusedSectionVars false
namespace Go.Proofs.YtioogodkiglceaaGreatDoor
open Go Go.Ax Go.Proofs Tryz
set_option maxRecDepth 100000
set_option maxHeartbeats 8000000
theorem Lb(i:Nat)(x:Nd)(hi:i<=4294967296)(hx:n4 x):bB prog [] 64 [.int .i64 i,bW x] (.bool (cP i x)):=by
  have b1:=hx.kids;have b2:=hx.values;have hcmp:∀a∈x.values,∀b,bB prog [] 95 [bS a,bS b] (.int .i64 (cE a b)):=fun a ha b=>zO a b (hx.valuesI a ha).1
  have hub:=PR x;have hcb:=RQ x.name hx.name;have hres:cP i x=(gY x && (decide (0<=x.kind) && decide (x.kind<=4)) && mG i x.kids && (decide (x.kind≠2) || (decide (1<=x.kids.length) && decide (x.kids.length<=256) && decide (x.weights.length=x.kids.length) && (decide (x.labels.length=0) || decide (x.labels.length=x.kids.length)))) &&
    (decide (x.kind≠3) || (decide (x.kids.length<=256) && (decide (x.name=[]) || (eP x.name && decide (x.kids.length<=16))))) && (decide (x.kind≠4) || decide (x.kids.length=x.values.length+1)) && eE x.values):=rfl
  clear hx;generalize cP i x=res at hres;generalize gY x=ub at hub hres;generalize eP x.name=cb at hcb hres;obtain⟨kind,name,lo,hi,ws,ls,vals,kids,⟨vk,vn,vs,vks⟩⟩:=x;simp only at b1 b2 hres hcmp hcb;have hw4:IntKind.i64.wrap ((vals.length:Int)+1)=(vals.length:Int)+1:=w64 rfl ⟨om,om⟩;have hF:(res=true->False)->AV.bool false=AV.bool res:=fun h1=>by
    cases hr:res with
    | false=>rfl
    | true=>exact(h1 hr).elim
  refine aK bG func64 rfl ?_;rcases(show kind=0∨kind=1∨kind=2∨kind=3∨kind=4∨(kind<0∨4<kind) by omega) with rfl|rfl|rfl|rfl|rfl|hk
  · refine Rr ?_
    refine hub.go ?_ (.cons (aV _) .nil);cases ub with
    | false=>
      refine Rr ?_;exact aA nn ⟨hF (by intro e;rw[hres] at e;simp at e),rfl,rfl⟩
    | true=>
      refine Rr ?_;refine bC.at bG (fun k:Nat=>k<=kids.length/\∀(j:Nat) (q:Int),j<k->kids[j]? = some q->0<=q/\q<i)
        (fun k=>⟨[(0,.int .i64 i),(3,.ptr 0 0 0),(6,.int .i64 k)],[(0,.row 46 12 [bW ⟨0,name,lo,hi,ws,ls,vals,kids,.mk vk vn vs vks⟩])],1,136⟩) (fun k=>kids.length-k) 0 [(0,0)] ⟨by simp,by simp⟩
        (aG _ rfl ⟨aL 0 (.cons (aV _) .nil),trivial⟩ ⟨aF,aJ,aF,trivial⟩) ?_
      rintro k ⟨hk,hall⟩;refine Rr ?_;refine aI (fun h=>?_) (fun h=>?_)
      · have hlt:k<kids.length:=by rw[aC] at h;simpa using h
        have e1:(aS kids)[(k:Int).toNat]? = some (.int .i64 kids[k]):=by rw[Va,a8,VV hlt];rfl
        have hg:kids[k]? = some kids[k]:=VV hlt;generalize kids[k]=q at e1 hg;have hbad:(0<=q/\q<i->False)->AV.bool false=AV.bool res:=fun hb=>hF (by
          intro e;rw[hres] at e;simp only[VZ] at e;exact hb (eU.1 e.1.1.1.1.2 k q hg))
        refine Rr ?_;refine aD e1 ?_;refine Rr ?_;refine aI (fun h=>?_) (fun h=>?_)
        · rw[h]
          refine Rr ?_;exact aA nn ⟨hbad (by simp at h;omega),rfl,rfl⟩
        · have g1:0<=q:=by simpa using h
          rw[h];refine Rr ?_;refine aD e1 ?_;refine Rr ?_;refine aI (fun h=>?_) (fun h=>?_)
          · refine Rr ?_
            exact aA nn ⟨hbad (by simp at h;omega),rfl,rfl⟩
          · have g2:q<i:=by simpa using h
            refine Rr ?_;refine .mk (k+1) [(0,0)] ⟨om,fun j w2 hj hw2=>?_⟩ (aG _ rfl ⟨aL 0 (.cons (aV _) .nil),trivial⟩ ⟨aF,aJ,⟨_,rfl,.w64 om ⟨om,om⟩⟩,trivial⟩) om;rcases Vm j k with hj'|hj'
            · exact hall j w2 hj' hw2
            · have hjk:j=k:=om
              rw[hjk,hg] at hw2;cases hw2;exact⟨g1,g2⟩
      · have hk':k=kids.length:=by rw[aC] at h;simp at h;omega
        have hkin:mG i kids=true:=eU.2 fun j q hj=>hall j q (by rw[hk'];exact(VX.1 hj).1) hj
        clear hall h hk hk';refine Rr ?_;repeat' (refine aI (fun h=>?_) (fun h=>?_)<;>((try rw[h]);refine Rr ?_))
        all_goals first
          | exact aA nn ⟨hF (by
              intro e;rw[hres] at e;clear hub hcb hcmp hF;simp_all[aC,bE];try omega),rfl,rfl⟩
          | (refine hcb.go ?_
             cases cb<;>refine Rr ?_<;>(repeat' (refine aI (fun h=>?_) (fun h=>?_)<;>((try rw[h]);refine Rr ?_))))
        all_goals first
          | exact aA nn ⟨hF (by
              intro e;rw[hres] at e;clear hub hcb hcmp hF;simp_all[aC,bE,aB];try omega),rfl,rfl⟩
          | skip
        all_goals
          have hrs:res=eE vals:=by
            rw[hres];clear hub hcb hcmp hF;simp_all[aC,bE,aB];try omega
          refine bC.at bG (fun k:Nat=>1<=k/\k<=max 1 vals.length/\∀(j:Nat) (a b:a6),j+1<k->vals[j]? = some a->vals[j+1]? = some b->cE a b<0)
            (fun k=>⟨[(3,.ptr 0 0 0),(9,.int .i64 k)],[(0,.row 46 12 [bW ⟨0,name,lo,hi,ws,ls,vals,kids,.mk vk vn vs vks⟩])],1,136⟩) (fun k=>vals.length-k) 1 [(0,0)] ⟨om,om,fun j a b hj=>om⟩
            (aG _ rfl ⟨aL 0 (.cons (aV _) .nil),trivial⟩ ⟨aJ,aF,trivial⟩) ?_
          rintro k ⟨hk1,hk2,hall⟩;refine Rr ?_;refine aI (fun h=>?_) (fun h=>?_)
          · have hlt:k<vals.length:=G7 h
            obtain⟨p1,p2,p3,p4,pm,pg,-,ep⟩:=bT (l:=vals) (k:=k-1) om;obtain⟨q1,q2,q3,q4,qm,qg,-,eq⟩:=bT (l:=vals) (k:=k) hlt;have hw1:IntKind.i64.wrap ((k:Int)-1)=((k-1:Nat):Int):=w64 om ⟨om,om⟩;have hc:=hcmp _ pm (.mk q1 q2 q3 q4);obtain⟨c,hc0⟩:∃c,c=cE (.mk p1 p2 p3 p4) (.mk q1 q2 q3 q4):=⟨_,rfl⟩
            rw[←hc0] at hc;refine Rr ?_;rw[hw1];refine Rr ?_;repeat((first|refine aD ep ?_|refine aD eq ?_|refine aU ?_);refine Rr ?_)
            refine hc.go ?_;refine Rr ?_;repeat((first|refine aD ep ?_|refine aD eq ?_|refine aU ?_);refine Rr ?_)
            refine aI (fun h=>?_) (fun h=>?_)
            · refine Rr ?_
              refine aA nn ⟨hF ?_,rfl,rfl⟩;intro e;rw[hrs] at e;have:=kO e (k-1) _ _ pg (by rw[show k-1+1=k by omega];exact qg);rw[←hc0] at this;simp at h;omega
            · refine Rr ?_
              refine .mk (k+1) [(0,0)] ⟨om,om,fun j a b hj ha hb=>?_⟩ (aG _ rfl ⟨aL 0 (.cons (aV _) .nil),trivial⟩ ⟨aJ,⟨_,rfl,.w64 om ⟨om,om⟩⟩,trivial⟩) om;rcases Vm (j+1) k with hj'|hj'
              · exact hall j a b hj' ha hb
              · have hjk:j=k-1:=om
                rw[hjk,pg] at ha;rw[hjk,show k-1+1=k by omega,qg] at hb;cases ha;cases hb;rw[←hc0];simpa using h
          · have hge:vals.length<=k:=IJ h
            refine Rr ?_;refine aA nn ⟨?_,rfl,rfl⟩;rw[hrs,kP fun j a b ha hb=>hall j a b (by have:=(VX.1 hb).1;omega) ha hb]
  · refine Rr ?_
    refine hub.go ?_ (.cons (aV _) .nil);cases ub with
    | false=>
      refine Rr ?_;exact aA nn ⟨hF (by intro e;rw[hres] at e;simp at e),rfl,rfl⟩
    | true=>
      refine Rr ?_;refine bC.at bG (fun k:Nat=>k<=kids.length/\∀(j:Nat) (q:Int),j<k->kids[j]? = some q->0<=q/\q<i)
        (fun k=>⟨[(0,.int .i64 i),(3,.ptr 0 0 0),(6,.int .i64 k)],[(0,.row 46 12 [bW ⟨1,name,lo,hi,ws,ls,vals,kids,.mk vk vn vs vks⟩])],1,136⟩) (fun k=>kids.length-k) 0 [(0,0)] ⟨by simp,by simp⟩
        (aG _ rfl ⟨aL 0 (.cons (aV _) .nil),trivial⟩ ⟨aF,aJ,aF,trivial⟩) ?_
      rintro k ⟨hk,hall⟩;refine Rr ?_;refine aI (fun h=>?_) (fun h=>?_)
      · have hlt:k<kids.length:=by rw[aC] at h;simpa using h
        have e1:(aS kids)[(k:Int).toNat]? = some (.int .i64 kids[k]):=by rw[Va,a8,VV hlt];rfl
        have hg:kids[k]? = some kids[k]:=VV hlt;generalize kids[k]=q at e1 hg;have hbad:(0<=q/\q<i->False)->AV.bool false=AV.bool res:=fun hb=>hF (by
          intro e;rw[hres] at e;simp only[VZ] at e;exact hb (eU.1 e.1.1.1.1.2 k q hg))
        refine Rr ?_;refine aD e1 ?_;refine Rr ?_;refine aI (fun h=>?_) (fun h=>?_)
        · rw[h]
          refine Rr ?_;exact aA nn ⟨hbad (by simp at h;omega),rfl,rfl⟩
        · have g1:0<=q:=by simpa using h
          rw[h];refine Rr ?_;refine aD e1 ?_;refine Rr ?_;refine aI (fun h=>?_) (fun h=>?_)
          · refine Rr ?_
            exact aA nn ⟨hbad (by simp at h;omega),rfl,rfl⟩
          · have g2:q<i:=by simpa using h
            refine Rr ?_;refine .mk (k+1) [(0,0)] ⟨om,fun j w2 hj hw2=>?_⟩ (aG _ rfl ⟨aL 0 (.cons (aV _) .nil),trivial⟩ ⟨aF,aJ,⟨_,rfl,.w64 om ⟨om,om⟩⟩,trivial⟩) om;rcases Vm j k with hj'|hj'
            · exact hall j w2 hj' hw2
            · have hjk:j=k:=om
              rw[hjk,hg] at hw2;cases hw2;exact⟨g1,g2⟩
      · have hk':k=kids.length:=by rw[aC] at h;simp at h;omega
        have hkin:mG i kids=true:=eU.2 fun j q hj=>hall j q (by rw[hk'];exact(VX.1 hj).1) hj
        clear hall h hk hk';refine Rr ?_;repeat' (refine aI (fun h=>?_) (fun h=>?_)<;>((try rw[h]);refine Rr ?_))
        all_goals first
          | exact aA nn ⟨hF (by
              intro e;rw[hres] at e;clear hub hcb hcmp hF;simp_all[aC,bE];try omega),rfl,rfl⟩
          | (refine hcb.go ?_
             cases cb<;>refine Rr ?_<;>(repeat' (refine aI (fun h=>?_) (fun h=>?_)<;>((try rw[h]);refine Rr ?_))))
        all_goals first
          | exact aA nn ⟨hF (by
              intro e;rw[hres] at e;clear hub hcb hcmp hF;simp_all[aC,bE,aB];try omega),rfl,rfl⟩
          | skip
        all_goals
          have hrs:res=eE vals:=by
            rw[hres];clear hub hcb hcmp hF;simp_all[aC,bE,aB];try omega
          refine bC.at bG (fun k:Nat=>1<=k/\k<=max 1 vals.length/\∀(j:Nat) (a b:a6),j+1<k->vals[j]? = some a->vals[j+1]? = some b->cE a b<0)
            (fun k=>⟨[(3,.ptr 0 0 0),(9,.int .i64 k)],[(0,.row 46 12 [bW ⟨1,name,lo,hi,ws,ls,vals,kids,.mk vk vn vs vks⟩])],1,136⟩) (fun k=>vals.length-k) 1 [(0,0)] ⟨om,om,fun j a b hj=>om⟩
            (aG _ rfl ⟨aL 0 (.cons (aV _) .nil),trivial⟩ ⟨aJ,aF,trivial⟩) ?_
          rintro k ⟨hk1,hk2,hall⟩;refine Rr ?_;refine aI (fun h=>?_) (fun h=>?_)
          · have hlt:k<vals.length:=G7 h
            obtain⟨p1,p2,p3,p4,pm,pg,-,ep⟩:=bT (l:=vals) (k:=k-1) om;obtain⟨q1,q2,q3,q4,qm,qg,-,eq⟩:=bT (l:=vals) (k:=k) hlt;have hw1:IntKind.i64.wrap ((k:Int)-1)=((k-1:Nat):Int):=w64 om ⟨om,om⟩;have hc:=hcmp _ pm (.mk q1 q2 q3 q4);obtain⟨c,hc0⟩:∃c,c=cE (.mk p1 p2 p3 p4) (.mk q1 q2 q3 q4):=⟨_,rfl⟩
            rw[←hc0] at hc;refine Rr ?_;rw[hw1];refine Rr ?_;repeat((first|refine aD ep ?_|refine aD eq ?_|refine aU ?_);refine Rr ?_)
            refine hc.go ?_;refine Rr ?_;repeat((first|refine aD ep ?_|refine aD eq ?_|refine aU ?_);refine Rr ?_)
            refine aI (fun h=>?_) (fun h=>?_)
            · refine Rr ?_
              refine aA nn ⟨hF ?_,rfl,rfl⟩;intro e;rw[hrs] at e;have:=kO e (k-1) _ _ pg (by rw[show k-1+1=k by omega];exact qg);rw[←hc0] at this;simp at h;omega
            · refine Rr ?_
              refine .mk (k+1) [(0,0)] ⟨om,om,fun j a b hj ha hb=>?_⟩ (aG _ rfl ⟨aL 0 (.cons (aV _) .nil),trivial⟩ ⟨aJ,⟨_,rfl,.w64 om ⟨om,om⟩⟩,trivial⟩) om;rcases Vm (j+1) k with hj'|hj'
              · exact hall j a b hj' ha hb
              · have hjk:j=k-1:=om
                rw[hjk,pg] at ha;rw[hjk,show k-1+1=k by omega,qg] at hb;cases ha;cases hb;rw[←hc0];simpa using h
          · have hge:vals.length<=k:=IJ h
            refine Rr ?_;refine aA nn ⟨?_,rfl,rfl⟩;rw[hrs,kP fun j a b ha hb=>hall j a b (by have:=(VX.1 hb).1;omega) ha hb]
  · refine Rr ?_
    refine hub.go ?_ (.cons (aV _) .nil);cases ub with
    | false=>
      refine Rr ?_;exact aA nn ⟨hF (by intro e;rw[hres] at e;simp at e),rfl,rfl⟩
    | true=>
      refine Rr ?_;refine bC.at bG (fun k:Nat=>k<=kids.length/\∀(j:Nat) (q:Int),j<k->kids[j]? = some q->0<=q/\q<i)
        (fun k=>⟨[(0,.int .i64 i),(3,.ptr 0 0 0),(6,.int .i64 k)],[(0,.row 46 12 [bW ⟨2,name,lo,hi,ws,ls,vals,kids,.mk vk vn vs vks⟩])],1,136⟩) (fun k=>kids.length-k) 0 [(0,0)] ⟨by simp,by simp⟩
        (aG _ rfl ⟨aL 0 (.cons (aV _) .nil),trivial⟩ ⟨aF,aJ,aF,trivial⟩) ?_
      rintro k ⟨hk,hall⟩;refine Rr ?_;refine aI (fun h=>?_) (fun h=>?_)
      · have hlt:k<kids.length:=by rw[aC] at h;simpa using h
        have e1:(aS kids)[(k:Int).toNat]? = some (.int .i64 kids[k]):=by rw[Va,a8,VV hlt];rfl
        have hg:kids[k]? = some kids[k]:=VV hlt;generalize kids[k]=q at e1 hg;have hbad:(0<=q/\q<i->False)->AV.bool false=AV.bool res:=fun hb=>hF (by
          intro e;rw[hres] at e;simp only[VZ] at e;exact hb (eU.1 e.1.1.1.1.2 k q hg))
        refine Rr ?_;refine aD e1 ?_;refine Rr ?_;refine aI (fun h=>?_) (fun h=>?_)
        · rw[h]
          refine Rr ?_;exact aA nn ⟨hbad (by simp at h;omega),rfl,rfl⟩
        · have g1:0<=q:=by simpa using h
          rw[h];refine Rr ?_;refine aD e1 ?_;refine Rr ?_;refine aI (fun h=>?_) (fun h=>?_)
          · refine Rr ?_
            exact aA nn ⟨hbad (by simp at h;omega),rfl,rfl⟩
          · have g2:q<i:=by simpa using h
            refine Rr ?_;refine .mk (k+1) [(0,0)] ⟨om,fun j w2 hj hw2=>?_⟩ (aG _ rfl ⟨aL 0 (.cons (aV _) .nil),trivial⟩ ⟨aF,aJ,⟨_,rfl,.w64 om ⟨om,om⟩⟩,trivial⟩) om;rcases Vm j k with hj'|hj'
            · exact hall j w2 hj' hw2
            · have hjk:j=k:=om
              rw[hjk,hg] at hw2;cases hw2;exact⟨g1,g2⟩
      · have hk':k=kids.length:=by rw[aC] at h;simp at h;omega
        have hkin:mG i kids=true:=eU.2 fun j q hj=>hall j q (by rw[hk'];exact(VX.1 hj).1) hj
        clear hall h hk hk';refine Rr ?_;repeat' (refine aI (fun h=>?_) (fun h=>?_)<;>((try rw[h]);refine Rr ?_))
        all_goals first
          | exact aA nn ⟨hF (by
              intro e;rw[hres] at e;clear hub hcb hcmp hF;simp_all[aC,bE];try omega),rfl,rfl⟩
          | (refine hcb.go ?_
             cases cb<;>refine Rr ?_<;>(repeat' (refine aI (fun h=>?_) (fun h=>?_)<;>((try rw[h]);refine Rr ?_))))
        all_goals first
          | exact aA nn ⟨hF (by
              intro e;rw[hres] at e;clear hub hcb hcmp hF;simp_all[aC,bE,aB];try omega),rfl,rfl⟩
          | skip
        all_goals
          have hrs:res=eE vals:=by
            rw[hres];clear hub hcb hcmp hF;simp_all[aC,bE,aB];try omega
          refine bC.at bG (fun k:Nat=>1<=k/\k<=max 1 vals.length/\∀(j:Nat) (a b:a6),j+1<k->vals[j]? = some a->vals[j+1]? = some b->cE a b<0)
            (fun k=>⟨[(3,.ptr 0 0 0),(9,.int .i64 k)],[(0,.row 46 12 [bW ⟨2,name,lo,hi,ws,ls,vals,kids,.mk vk vn vs vks⟩])],1,136⟩) (fun k=>vals.length-k) 1 [(0,0)] ⟨om,om,fun j a b hj=>om⟩
            (aG _ rfl ⟨aL 0 (.cons (aV _) .nil),trivial⟩ ⟨aJ,aF,trivial⟩) ?_
          rintro k ⟨hk1,hk2,hall⟩;refine Rr ?_;refine aI (fun h=>?_) (fun h=>?_)
          · have hlt:k<vals.length:=G7 h
            obtain⟨p1,p2,p3,p4,pm,pg,-,ep⟩:=bT (l:=vals) (k:=k-1) om;obtain⟨q1,q2,q3,q4,qm,qg,-,eq⟩:=bT (l:=vals) (k:=k) hlt;have hw1:IntKind.i64.wrap ((k:Int)-1)=((k-1:Nat):Int):=w64 om ⟨om,om⟩;have hc:=hcmp _ pm (.mk q1 q2 q3 q4);obtain⟨c,hc0⟩:∃c,c=cE (.mk p1 p2 p3 p4) (.mk q1 q2 q3 q4):=⟨_,rfl⟩
            rw[←hc0] at hc;refine Rr ?_;rw[hw1];refine Rr ?_;repeat((first|refine aD ep ?_|refine aD eq ?_|refine aU ?_);refine Rr ?_)
            refine hc.go ?_;refine Rr ?_;repeat((first|refine aD ep ?_|refine aD eq ?_|refine aU ?_);refine Rr ?_)
            refine aI (fun h=>?_) (fun h=>?_)
            · refine Rr ?_
              refine aA nn ⟨hF ?_,rfl,rfl⟩;intro e;rw[hrs] at e;have:=kO e (k-1) _ _ pg (by rw[show k-1+1=k by omega];exact qg);rw[←hc0] at this;simp at h;omega
            · refine Rr ?_
              refine .mk (k+1) [(0,0)] ⟨om,om,fun j a b hj ha hb=>?_⟩ (aG _ rfl ⟨aL 0 (.cons (aV _) .nil),trivial⟩ ⟨aJ,⟨_,rfl,.w64 om ⟨om,om⟩⟩,trivial⟩) om;rcases Vm (j+1) k with hj'|hj'
              · exact hall j a b hj' ha hb
              · have hjk:j=k-1:=om
                rw[hjk,pg] at ha;rw[hjk,show k-1+1=k by omega,qg] at hb;cases ha;cases hb;rw[←hc0];simpa using h
          · have hge:vals.length<=k:=IJ h
            refine Rr ?_;refine aA nn ⟨?_,rfl,rfl⟩;rw[hrs,kP fun j a b ha hb=>hall j a b (by have:=(VX.1 hb).1;omega) ha hb]
  · refine Rr ?_
    refine hub.go ?_ (.cons (aV _) .nil);cases ub with
    | false=>
      refine Rr ?_;exact aA nn ⟨hF (by intro e;rw[hres] at e;simp at e),rfl,rfl⟩
    | true=>
      refine Rr ?_;refine bC.at bG (fun k:Nat=>k<=kids.length/\∀(j:Nat) (q:Int),j<k->kids[j]? = some q->0<=q/\q<i)
        (fun k=>⟨[(0,.int .i64 i),(3,.ptr 0 0 0),(6,.int .i64 k)],[(0,.row 46 12 [bW ⟨3,name,lo,hi,ws,ls,vals,kids,.mk vk vn vs vks⟩])],1,136⟩) (fun k=>kids.length-k) 0 [(0,0)] ⟨by simp,by simp⟩
        (aG _ rfl ⟨aL 0 (.cons (aV _) .nil),trivial⟩ ⟨aF,aJ,aF,trivial⟩) ?_
      rintro k ⟨hk,hall⟩;refine Rr ?_;refine aI (fun h=>?_) (fun h=>?_)
      · have hlt:k<kids.length:=by rw[aC] at h;simpa using h
        have e1:(aS kids)[(k:Int).toNat]? = some (.int .i64 kids[k]):=by rw[Va,a8,VV hlt];rfl
        have hg:kids[k]? = some kids[k]:=VV hlt;generalize kids[k]=q at e1 hg;have hbad:(0<=q/\q<i->False)->AV.bool false=AV.bool res:=fun hb=>hF (by
          intro e;rw[hres] at e;simp only[VZ] at e;exact hb (eU.1 e.1.1.1.1.2 k q hg))
        refine Rr ?_;refine aD e1 ?_;refine Rr ?_;refine aI (fun h=>?_) (fun h=>?_)
        · rw[h]
          refine Rr ?_;exact aA nn ⟨hbad (by simp at h;omega),rfl,rfl⟩
        · have g1:0<=q:=by simpa using h
          rw[h];refine Rr ?_;refine aD e1 ?_;refine Rr ?_;refine aI (fun h=>?_) (fun h=>?_)
          · refine Rr ?_
            exact aA nn ⟨hbad (by simp at h;omega),rfl,rfl⟩
          · have g2:q<i:=by simpa using h
            refine Rr ?_;refine .mk (k+1) [(0,0)] ⟨om,fun j w2 hj hw2=>?_⟩ (aG _ rfl ⟨aL 0 (.cons (aV _) .nil),trivial⟩ ⟨aF,aJ,⟨_,rfl,.w64 om ⟨om,om⟩⟩,trivial⟩) om;rcases Vm j k with hj'|hj'
            · exact hall j w2 hj' hw2
            · have hjk:j=k:=om
              rw[hjk,hg] at hw2;cases hw2;exact⟨g1,g2⟩
      · have hk':k=kids.length:=by rw[aC] at h;simp at h;omega
        have hkin:mG i kids=true:=eU.2 fun j q hj=>hall j q (by rw[hk'];exact(VX.1 hj).1) hj
        clear hall h hk hk';refine Rr ?_;repeat' (refine aI (fun h=>?_) (fun h=>?_)<;>((try rw[h]);refine Rr ?_))
        all_goals first
          | exact aA nn ⟨hF (by
              intro e;rw[hres] at e;clear hub hcb hcmp hF;simp_all[aC,bE];try omega),rfl,rfl⟩
          | (refine hcb.go ?_
             cases cb<;>refine Rr ?_<;>(repeat' (refine aI (fun h=>?_) (fun h=>?_)<;>((try rw[h]);refine Rr ?_))))
        all_goals first
          | exact aA nn ⟨hF (by
              intro e;rw[hres] at e;clear hub hcb hcmp hF;simp_all[aC,bE,aB];try omega),rfl,rfl⟩
          | skip
        all_goals
          have hrs:res=eE vals:=by
            rw[hres];clear hub hcb hcmp hF;simp_all[aC,bE,aB];try omega
          refine bC.at bG (fun k:Nat=>1<=k/\k<=max 1 vals.length/\∀(j:Nat) (a b:a6),j+1<k->vals[j]? = some a->vals[j+1]? = some b->cE a b<0)
            (fun k=>⟨[(3,.ptr 0 0 0),(9,.int .i64 k)],[(0,.row 46 12 [bW ⟨3,name,lo,hi,ws,ls,vals,kids,.mk vk vn vs vks⟩])],1,136⟩) (fun k=>vals.length-k) 1 [(0,0)] ⟨om,om,fun j a b hj=>om⟩
            (aG _ rfl ⟨aL 0 (.cons (aV _) .nil),trivial⟩ ⟨aJ,aF,trivial⟩) ?_
          rintro k ⟨hk1,hk2,hall⟩;refine Rr ?_;refine aI (fun h=>?_) (fun h=>?_)
          · have hlt:k<vals.length:=G7 h
            obtain⟨p1,p2,p3,p4,pm,pg,-,ep⟩:=bT (l:=vals) (k:=k-1) om;obtain⟨q1,q2,q3,q4,qm,qg,-,eq⟩:=bT (l:=vals) (k:=k) hlt;have hw1:IntKind.i64.wrap ((k:Int)-1)=((k-1:Nat):Int):=w64 om ⟨om,om⟩;have hc:=hcmp _ pm (.mk q1 q2 q3 q4);obtain⟨c,hc0⟩:∃c,c=cE (.mk p1 p2 p3 p4) (.mk q1 q2 q3 q4):=⟨_,rfl⟩
            rw[←hc0] at hc;refine Rr ?_;rw[hw1];refine Rr ?_;repeat((first|refine aD ep ?_|refine aD eq ?_|refine aU ?_);refine Rr ?_)
            refine hc.go ?_;refine Rr ?_;repeat((first|refine aD ep ?_|refine aD eq ?_|refine aU ?_);refine Rr ?_)
            refine aI (fun h=>?_) (fun h=>?_)
            · refine Rr ?_
              refine aA nn ⟨hF ?_,rfl,rfl⟩;intro e;rw[hrs] at e;have:=kO e (k-1) _ _ pg (by rw[show k-1+1=k by omega];exact qg);rw[←hc0] at this;simp at h;omega
            · refine Rr ?_
              refine .mk (k+1) [(0,0)] ⟨om,om,fun j a b hj ha hb=>?_⟩ (aG _ rfl ⟨aL 0 (.cons (aV _) .nil),trivial⟩ ⟨aJ,⟨_,rfl,.w64 om ⟨om,om⟩⟩,trivial⟩) om;rcases Vm (j+1) k with hj'|hj'
              · exact hall j a b hj' ha hb
              · have hjk:j=k-1:=om
                rw[hjk,pg] at ha;rw[hjk,show k-1+1=k by omega,qg] at hb;cases ha;cases hb;rw[←hc0];simpa using h
          · have hge:vals.length<=k:=IJ h
            refine Rr ?_;refine aA nn ⟨?_,rfl,rfl⟩;rw[hrs,kP fun j a b ha hb=>hall j a b (by have:=(VX.1 hb).1;omega) ha hb]
  · refine Rr ?_
    refine hub.go ?_ (.cons (aV _) .nil);cases ub with
    | false=>
      refine Rr ?_;exact aA nn ⟨hF (by intro e;rw[hres] at e;simp at e),rfl,rfl⟩
    | true=>
      refine Rr ?_;refine bC.at bG (fun k:Nat=>k<=kids.length/\∀(j:Nat) (q:Int),j<k->kids[j]? = some q->0<=q/\q<i)
        (fun k=>⟨[(0,.int .i64 i),(3,.ptr 0 0 0),(6,.int .i64 k)],[(0,.row 46 12 [bW ⟨4,name,lo,hi,ws,ls,vals,kids,.mk vk vn vs vks⟩])],1,136⟩) (fun k=>kids.length-k) 0 [(0,0)] ⟨by simp,by simp⟩
        (aG _ rfl ⟨aL 0 (.cons (aV _) .nil),trivial⟩ ⟨aF,aJ,aF,trivial⟩) ?_
      rintro k ⟨hk,hall⟩;refine Rr ?_;refine aI (fun h=>?_) (fun h=>?_)
      · have hlt:k<kids.length:=by rw[aC] at h;simpa using h
        have e1:(aS kids)[(k:Int).toNat]? = some (.int .i64 kids[k]):=by rw[Va,a8,VV hlt];rfl
        have hg:kids[k]? = some kids[k]:=VV hlt;generalize kids[k]=q at e1 hg;have hbad:(0<=q/\q<i->False)->AV.bool false=AV.bool res:=fun hb=>hF (by
          intro e;rw[hres] at e;simp only[VZ] at e;exact hb (eU.1 e.1.1.1.1.2 k q hg))
        refine Rr ?_;refine aD e1 ?_;refine Rr ?_;refine aI (fun h=>?_) (fun h=>?_)
        · rw[h]
          refine Rr ?_;exact aA nn ⟨hbad (by simp at h;omega),rfl,rfl⟩
        · have g1:0<=q:=by simpa using h
          rw[h];refine Rr ?_;refine aD e1 ?_;refine Rr ?_;refine aI (fun h=>?_) (fun h=>?_)
          · refine Rr ?_
            exact aA nn ⟨hbad (by simp at h;omega),rfl,rfl⟩
          · have g2:q<i:=by simpa using h
            refine Rr ?_;refine .mk (k+1) [(0,0)] ⟨om,fun j w2 hj hw2=>?_⟩ (aG _ rfl ⟨aL 0 (.cons (aV _) .nil),trivial⟩ ⟨aF,aJ,⟨_,rfl,.w64 om ⟨om,om⟩⟩,trivial⟩) om;rcases Vm j k with hj'|hj'
            · exact hall j w2 hj' hw2
            · have hjk:j=k:=om
              rw[hjk,hg] at hw2;cases hw2;exact⟨g1,g2⟩
      · have hk':k=kids.length:=by rw[aC] at h;simp at h;omega
        have hkin:mG i kids=true:=eU.2 fun j q hj=>hall j q (by rw[hk'];exact(VX.1 hj).1) hj
        clear hall h hk hk';refine Rr ?_;repeat' (refine aI (fun h=>?_) (fun h=>?_)<;>((try rw[h]);refine Rr ?_))
        all_goals first
          | exact aA nn ⟨hF (by
              intro e;rw[hres] at e;clear hub hcb hcmp hF;simp_all[aC,bE];try omega),rfl,rfl⟩
          | (refine hcb.go ?_
             cases cb<;>refine Rr ?_<;>(repeat' (refine aI (fun h=>?_) (fun h=>?_)<;>((try rw[h]);refine Rr ?_))))
        all_goals first
          | exact aA nn ⟨hF (by
              intro e;rw[hres] at e;clear hub hcb hcmp hF;simp_all[aC,bE,aB];try omega),rfl,rfl⟩
          | skip
        all_goals
          have hrs:res=eE vals:=by
            rw[hres];clear hub hcb hcmp hF;simp_all[aC,bE,aB];try omega
          refine bC.at bG (fun k:Nat=>1<=k/\k<=max 1 vals.length/\∀(j:Nat) (a b:a6),j+1<k->vals[j]? = some a->vals[j+1]? = some b->cE a b<0)
            (fun k=>⟨[(3,.ptr 0 0 0),(9,.int .i64 k)],[(0,.row 46 12 [bW ⟨4,name,lo,hi,ws,ls,vals,kids,.mk vk vn vs vks⟩])],1,136⟩) (fun k=>vals.length-k) 1 [(0,0)] ⟨om,om,fun j a b hj=>om⟩
            (aG _ rfl ⟨aL 0 (.cons (aV _) .nil),trivial⟩ ⟨aJ,aF,trivial⟩) ?_
          rintro k ⟨hk1,hk2,hall⟩;refine Rr ?_;refine aI (fun h=>?_) (fun h=>?_)
          · have hlt:k<vals.length:=G7 h
            obtain⟨p1,p2,p3,p4,pm,pg,-,ep⟩:=bT (l:=vals) (k:=k-1) om;obtain⟨q1,q2,q3,q4,qm,qg,-,eq⟩:=bT (l:=vals) (k:=k) hlt;have hw1:IntKind.i64.wrap ((k:Int)-1)=((k-1:Nat):Int):=w64 om ⟨om,om⟩;have hc:=hcmp _ pm (.mk q1 q2 q3 q4);obtain⟨c,hc0⟩:∃c,c=cE (.mk p1 p2 p3 p4) (.mk q1 q2 q3 q4):=⟨_,rfl⟩
            rw[←hc0] at hc;refine Rr ?_;rw[hw1];refine Rr ?_;repeat((first|refine aD ep ?_|refine aD eq ?_|refine aU ?_);refine Rr ?_)
            refine hc.go ?_;refine Rr ?_;repeat((first|refine aD ep ?_|refine aD eq ?_|refine aU ?_);refine Rr ?_)
            refine aI (fun h=>?_) (fun h=>?_)
            · refine Rr ?_
              refine aA nn ⟨hF ?_,rfl,rfl⟩;intro e;rw[hrs] at e;have:=kO e (k-1) _ _ pg (by rw[show k-1+1=k by omega];exact qg);rw[←hc0] at this;simp at h;omega
            · refine Rr ?_
              refine .mk (k+1) [(0,0)] ⟨om,om,fun j a b hj ha hb=>?_⟩ (aG _ rfl ⟨aL 0 (.cons (aV _) .nil),trivial⟩ ⟨aJ,⟨_,rfl,.w64 om ⟨om,om⟩⟩,trivial⟩) om;rcases Vm (j+1) k with hj'|hj'
              · exact hall j a b hj' ha hb
              · have hjk:j=k-1:=om
                rw[hjk,pg] at ha;rw[hjk,show k-1+1=k by omega,qg] at hb;cases ha;cases hb;rw[←hc0];simpa using h
          · have hge:vals.length<=k:=IJ h
            refine Rr ?_;refine aA nn ⟨?_,rfl,rfl⟩;rw[hrs,kP fun j a b ha hb=>hall j a b (by have:=(VX.1 hb).1;omega) ha hb]
  · refine Rr ?_
    refine hub.go ?_ (.cons (aV _) .nil);cases ub with
    | false=>
      refine Rr ?_;exact aA nn ⟨hF (by intro e;rw[hres] at e;simp at e),rfl,rfl⟩
    | true=>
      refine Rr ?_;repeat' (refine aI (fun h=>?_) (fun h=>?_)<;>((try rw[h]);refine Rr ?_))
      all_goals first
        | exact aA nn ⟨hF (by intro e;rw[hres] at e;simp at e;omega),rfl,rfl⟩
        | (exfalso
           simp at *;omega)
end Go.Proofs.YtioogodkiglceaaGreatDoor
