/- A part of the proof. -/
import Derived.Test.YtidjhgajglebnaaGreatDoorAx14
set_option linter.unusedVariables false
set_option linter.unusedSimpArgs false
set_option maxRecDepth 1000000
set_option maxHeartbeats 16000000
namespace Go.Proofs.YtidjhgajglebnaaGreatDoor
open Go Go.Ax Go.Proofs Tryz
theorem N4(i:Nat)(x:Nd)(hi:i<=4294967296)(hx:x9 x):aT prog [] 70 [.int .i64 i,cW x] (.bool (dT i x)):=by
  have b1:=hx.kids;have b2:=hx.values;have hcmp:∀a∈x.values,∀b,aT prog [] 93 [cO a,cO b] (.int .i64 (cJ a b)):=λa ha b=>tK a b (hx.valuesI a ha).1
  have hub:=UI x;have hcb:=Wf x.name hx.name;have hres:dT i x=(lU x && (decide (0<=x.kind) && decide (x.kind<=4)) && qD i x.kids && (decide (x.kind≠2) || (decide (1<=x.kids.length) && decide (x.kids.length<=256) && decide (x.weights.length=x.kids.length) && (decide (x.labels.length=0) || decide (x.labels.length=x.kids.length)))) &&
    (decide (x.kind≠3) || (decide (x.kids.length<=256) && (decide (x.name=[]) || (Go.Ax.f9 x.name && decide (x.kids.length<=16))))) && (decide (x.kind≠4) || decide (x.kids.length=x.values.length+1)) && fD x.values):=rfl
  clear hx;generalize dT i x=res at hres;generalize lU x=ub at hub hres;generalize Go.Ax.f9 x.name=cb at hcb hres;obtain⟨kind,name,lo,hi,ws,ls,vals,kids,⟨vk,vn,vs,vks⟩⟩:=x;simp only at b1 b2 hres hcmp hcb;have hw4:IntKind.i64.wrap ((vals.length:Int)+1)=(vals.length:Int)+1:=w64 rfl oq;have hF:(res=true->False)->AV.bool false=AV.bool res:=λh1=>by
    cases hr:res with
    | false=>rfl
    | true=>exact(h1 hr).elim
  refine aD bE func70 rfl ?_;rcases(show kind=0\/kind=1\/kind=2\/kind=3\/kind=4\/(kind<0\/4<kind) by omega) with rfl|rfl|rfl|rfl|rfl|hk
  · refine Rr ?_
    refine hub.go ?_ (.cons (bB _) .nil);cases ub with
    | false=>
      refine Rr ?_;exact aA nn ⟨hF (by intro e;rw[hres] at e;simp at e),rfl,rfl⟩
    | true=>
      refine Rr ?_;refine bA.at bE (λk:Nat=>k<=kids.length/\∀(j:Nat) (q:Int),j<k->kids[j]? = some q->0<=q/\q<i)
        (λk=>⟨[(0,.int .i64 i),(3,.ptr 0 0 0),(6,.int .i64 k)],[(0,.row 57 12 [cW ⟨0,name,lo,hi,ws,ls,vals,kids,.mk vk vn vs vks⟩])],1,136⟩) (λk=>kids.length-k) 0 [(0,0)] ⟨sq,sq⟩
        (aE _ rfl ⟨aL 0 (.cons (bB _) .nil),trivial⟩ ⟨aJ,aF,aJ,trivial⟩) ?_
      rintro k ⟨hk,hall⟩;refine Rr ?_;refine aI (λh=>?_) (λh=>?_)
      · have hlt:k<kids.length:=by rw[aK] at h;simpa using h
        have e1:(bL kids)[(k:Int).toNat]? = some (.int .i64 kids[k]):=by rw[aAc,bP,aAa hlt];rfl
        have hg:kids[k]? = some kids[k]:=aAa hlt;generalize kids[k]=q at e1 hg;have hbad:(0<=q/\q<i->False)->AV.bool false=AV.bool res:=λhb=>hF (by
          intro e;rw[hres] at e;simp only[aAd] at e;exact hb (fN.1 e.1.1.1.1.2 k q hg))
        refine Rr ?_;refine aB e1 ?_;refine Rr ?_;refine aI (λh=>?_) (λh=>?_)
        · rw[h]
          refine Rr ?_;exact aA nn ⟨hbad (by simp at h;omega),rfl,rfl⟩
        · have g1:0<=q:=su h
          rw[h];refine Rr ?_;refine aB e1 ?_;refine Rr ?_;refine aI (λh=>?_) (λh=>?_)
          · refine Rr ?_
            exact aA nn ⟨hbad (by simp at h;omega),rfl,rfl⟩
          · have g2:q<i:=su h
            refine Rr ?_;refine .mk (k+1) [(0,0)] ⟨om,λj w2 hj hw2=>?_⟩ (aE _ rfl ⟨aL 0 (.cons (bB _) .nil),trivial⟩ ⟨aJ,aF,⟨_,rfl,.w64 om oq⟩,trivial⟩) om;rcases aAr j k with hj'|hj'
            · exact hall j w2 hj' hw2
            · have hjk:j=k:=om
              rw[hjk,hg] at hw2;cases hw2;exact⟨g1,g2⟩
      · have hk':k=kids.length:=by rw[aK] at h;simp at h;omega
        have hkin:qD i kids=true:=fN.2 λj q hj=>hall j q (by rw[hk'];exact(aAg.1 hj).1) hj
        clear hall h hk hk';refine Rr ?_;repeat' (refine aI (λh=>?_) (λh=>?_)<;>((try rw[h]);refine Rr ?_))
        all_goals first
          | exact aA nn ⟨hF (by
              intro e;rw[hres] at e;clear hub hcb hcmp hF;simp_all[aK,cE];try omega),rfl,rfl⟩
          | (refine hcb.go ?_
             cases cb<;>refine Rr ?_<;>(repeat' (refine aI (λh=>?_) (λh=>?_)<;>((try rw[h]);refine Rr ?_))))
        all_goals first
          | exact aA nn ⟨hF (by
              intro e;rw[hres] at e;clear hub hcb hcmp hF;simp_all[aK,cE,aC];try omega),rfl,rfl⟩
          | skip
        all_goals
          have hrs:res=fD vals:=by
            rw[hres];clear hub hcb hcmp hF;simp_all[aK,cE,aC];try omega
          refine bA.at bE (λk:Nat=>1<=k/\k<=max 1 vals.length/\∀(j:Nat) (a b:aQ),j+1<k->vals[j]? = some a->vals[j+1]? = some b->cJ a b<0)
            (λk=>⟨[(3,.ptr 0 0 0),(9,.int .i64 k)],[(0,.row 57 12 [cW ⟨0,name,lo,hi,ws,ls,vals,kids,.mk vk vn vs vks⟩])],1,136⟩) (λk=>vals.length-k) 1 [(0,0)] ⟨om,om,λj a b hj=>om⟩
            (aE _ rfl ⟨aL 0 (.cons (bB _) .nil),trivial⟩ ⟨aF,aJ,trivial⟩) ?_
          rintro k ⟨hk1,hk2,hall⟩;refine Rr ?_;refine aI (λh=>?_) (λh=>?_)
          · have hlt:k<vals.length:=Jp h
            obtain⟨p1,p2,p3,p4,pm,pg,-,ep⟩:=cX (l:=vals) (k:=k-1) om;obtain⟨q1,q2,q3,q4,qm,qg,-,eq⟩:=cX (l:=vals) (k:=k) hlt;have hw1:IntKind.i64.wrap ((k:Int)-1)=((k-1:Nat):Int):=w64 om oq;have hc:=hcmp _ pm (.mk q1 q2 q3 q4);obtain⟨c,hc0⟩:∃c,c=cJ (.mk p1 p2 p3 p4) (.mk q1 q2 q3 q4):=⟨_,rfl⟩
            rw[<-hc0] at hc;refine Rr ?_;rw[hw1];refine Rr ?_;repeat((first|refine aB ep ?_|refine aB eq ?_|refine bQ ?_);refine Rr ?_)
            refine hc.go ?_;refine Rr ?_;repeat((first|refine aB ep ?_|refine aB eq ?_|refine bQ ?_);refine Rr ?_)
            refine aI (λh=>?_) (λh=>?_)
            · refine Rr ?_
              refine aA nn ⟨hF ?_,rfl,rfl⟩;intro e;rw[hrs] at e;have:=mH e (k-1) _ _ pg (by rw[show k-1+1=k by omega];exact qg);rw[<-hc0] at this;simp at h;omega
            · refine Rr ?_
              refine .mk (k+1) [(0,0)] ⟨om,om,λj a b hj ha hb=>?_⟩ (aE _ rfl ⟨aL 0 (.cons (bB _) .nil),trivial⟩ ⟨aF,⟨_,rfl,.w64 om oq⟩,trivial⟩) om;rcases aAr (j+1) k with hj'|hj'
              · exact hall j a b hj' ha hb
              · have hjk:j=k-1:=om
                rw[hjk,pg] at ha;rw[hjk,show k-1+1=k by omega,qg] at hb;cases ha;cases hb;rw[<-hc0];simpa using h
          · have hge:vals.length<=k:=Jd h
            refine Rr ?_;refine aA nn ⟨?_,rfl,rfl⟩;rw[hrs,mL λj a b ha hb=>hall j a b (by have:=(aAg.1 hb).1;omega) ha hb]
  · refine Rr ?_
    refine hub.go ?_ (.cons (bB _) .nil);cases ub with
    | false=>
      refine Rr ?_;exact aA nn ⟨hF (by intro e;rw[hres] at e;simp at e),rfl,rfl⟩
    | true=>
      refine Rr ?_;refine bA.at bE (λk:Nat=>k<=kids.length/\∀(j:Nat) (q:Int),j<k->kids[j]? = some q->0<=q/\q<i)
        (λk=>⟨[(0,.int .i64 i),(3,.ptr 0 0 0),(6,.int .i64 k)],[(0,.row 57 12 [cW ⟨1,name,lo,hi,ws,ls,vals,kids,.mk vk vn vs vks⟩])],1,136⟩) (λk=>kids.length-k) 0 [(0,0)] ⟨sq,sq⟩
        (aE _ rfl ⟨aL 0 (.cons (bB _) .nil),trivial⟩ ⟨aJ,aF,aJ,trivial⟩) ?_
      rintro k ⟨hk,hall⟩;refine Rr ?_;refine aI (λh=>?_) (λh=>?_)
      · have hlt:k<kids.length:=by rw[aK] at h;simpa using h
        have e1:(bL kids)[(k:Int).toNat]? = some (.int .i64 kids[k]):=by rw[aAc,bP,aAa hlt];rfl
        have hg:kids[k]? = some kids[k]:=aAa hlt;generalize kids[k]=q at e1 hg;have hbad:(0<=q/\q<i->False)->AV.bool false=AV.bool res:=λhb=>hF (by
          intro e;rw[hres] at e;simp only[aAd] at e;exact hb (fN.1 e.1.1.1.1.2 k q hg))
        refine Rr ?_;refine aB e1 ?_;refine Rr ?_;refine aI (λh=>?_) (λh=>?_)
        · rw[h]
          refine Rr ?_;exact aA nn ⟨hbad (by simp at h;omega),rfl,rfl⟩
        · have g1:0<=q:=su h
          rw[h];refine Rr ?_;refine aB e1 ?_;refine Rr ?_;refine aI (λh=>?_) (λh=>?_)
          · refine Rr ?_
            exact aA nn ⟨hbad (by simp at h;omega),rfl,rfl⟩
          · have g2:q<i:=su h
            refine Rr ?_;refine .mk (k+1) [(0,0)] ⟨om,λj w2 hj hw2=>?_⟩ (aE _ rfl ⟨aL 0 (.cons (bB _) .nil),trivial⟩ ⟨aJ,aF,⟨_,rfl,.w64 om oq⟩,trivial⟩) om;rcases aAr j k with hj'|hj'
            · exact hall j w2 hj' hw2
            · have hjk:j=k:=om
              rw[hjk,hg] at hw2;cases hw2;exact⟨g1,g2⟩
      · have hk':k=kids.length:=by rw[aK] at h;simp at h;omega
        have hkin:qD i kids=true:=fN.2 λj q hj=>hall j q (by rw[hk'];exact(aAg.1 hj).1) hj
        clear hall h hk hk';refine Rr ?_;repeat' (refine aI (λh=>?_) (λh=>?_)<;>((try rw[h]);refine Rr ?_))
        all_goals first
          | exact aA nn ⟨hF (by
              intro e;rw[hres] at e;clear hub hcb hcmp hF;simp_all[aK,cE];try omega),rfl,rfl⟩
          | (refine hcb.go ?_
             cases cb<;>refine Rr ?_<;>(repeat' (refine aI (λh=>?_) (λh=>?_)<;>((try rw[h]);refine Rr ?_))))
        all_goals first
          | exact aA nn ⟨hF (by
              intro e;rw[hres] at e;clear hub hcb hcmp hF;simp_all[aK,cE,aC];try omega),rfl,rfl⟩
          | skip
        all_goals
          have hrs:res=fD vals:=by
            rw[hres];clear hub hcb hcmp hF;simp_all[aK,cE,aC];try omega
          refine bA.at bE (λk:Nat=>1<=k/\k<=max 1 vals.length/\∀(j:Nat) (a b:aQ),j+1<k->vals[j]? = some a->vals[j+1]? = some b->cJ a b<0)
            (λk=>⟨[(3,.ptr 0 0 0),(9,.int .i64 k)],[(0,.row 57 12 [cW ⟨1,name,lo,hi,ws,ls,vals,kids,.mk vk vn vs vks⟩])],1,136⟩) (λk=>vals.length-k) 1 [(0,0)] ⟨om,om,λj a b hj=>om⟩
            (aE _ rfl ⟨aL 0 (.cons (bB _) .nil),trivial⟩ ⟨aF,aJ,trivial⟩) ?_
          rintro k ⟨hk1,hk2,hall⟩;refine Rr ?_;refine aI (λh=>?_) (λh=>?_)
          · have hlt:k<vals.length:=Jp h
            obtain⟨p1,p2,p3,p4,pm,pg,-,ep⟩:=cX (l:=vals) (k:=k-1) om;obtain⟨q1,q2,q3,q4,qm,qg,-,eq⟩:=cX (l:=vals) (k:=k) hlt;have hw1:IntKind.i64.wrap ((k:Int)-1)=((k-1:Nat):Int):=w64 om oq;have hc:=hcmp _ pm (.mk q1 q2 q3 q4);obtain⟨c,hc0⟩:∃c,c=cJ (.mk p1 p2 p3 p4) (.mk q1 q2 q3 q4):=⟨_,rfl⟩
            rw[<-hc0] at hc;refine Rr ?_;rw[hw1];refine Rr ?_;repeat((first|refine aB ep ?_|refine aB eq ?_|refine bQ ?_);refine Rr ?_)
            refine hc.go ?_;refine Rr ?_;repeat((first|refine aB ep ?_|refine aB eq ?_|refine bQ ?_);refine Rr ?_)
            refine aI (λh=>?_) (λh=>?_)
            · refine Rr ?_
              refine aA nn ⟨hF ?_,rfl,rfl⟩;intro e;rw[hrs] at e;have:=mH e (k-1) _ _ pg (by rw[show k-1+1=k by omega];exact qg);rw[<-hc0] at this;simp at h;omega
            · refine Rr ?_
              refine .mk (k+1) [(0,0)] ⟨om,om,λj a b hj ha hb=>?_⟩ (aE _ rfl ⟨aL 0 (.cons (bB _) .nil),trivial⟩ ⟨aF,⟨_,rfl,.w64 om oq⟩,trivial⟩) om;rcases aAr (j+1) k with hj'|hj'
              · exact hall j a b hj' ha hb
              · have hjk:j=k-1:=om
                rw[hjk,pg] at ha;rw[hjk,show k-1+1=k by omega,qg] at hb;cases ha;cases hb;rw[<-hc0];simpa using h
          · have hge:vals.length<=k:=Jd h
            refine Rr ?_;refine aA nn ⟨?_,rfl,rfl⟩;rw[hrs,mL λj a b ha hb=>hall j a b (by have:=(aAg.1 hb).1;omega) ha hb]
  · refine Rr ?_
    refine hub.go ?_ (.cons (bB _) .nil);cases ub with
    | false=>
      refine Rr ?_;exact aA nn ⟨hF (by intro e;rw[hres] at e;simp at e),rfl,rfl⟩
    | true=>
      refine Rr ?_;refine bA.at bE (λk:Nat=>k<=kids.length/\∀(j:Nat) (q:Int),j<k->kids[j]? = some q->0<=q/\q<i)
        (λk=>⟨[(0,.int .i64 i),(3,.ptr 0 0 0),(6,.int .i64 k)],[(0,.row 57 12 [cW ⟨2,name,lo,hi,ws,ls,vals,kids,.mk vk vn vs vks⟩])],1,136⟩) (λk=>kids.length-k) 0 [(0,0)] ⟨sq,sq⟩
        (aE _ rfl ⟨aL 0 (.cons (bB _) .nil),trivial⟩ ⟨aJ,aF,aJ,trivial⟩) ?_
      rintro k ⟨hk,hall⟩;refine Rr ?_;refine aI (λh=>?_) (λh=>?_)
      · have hlt:k<kids.length:=by rw[aK] at h;simpa using h
        have e1:(bL kids)[(k:Int).toNat]? = some (.int .i64 kids[k]):=by rw[aAc,bP,aAa hlt];rfl
        have hg:kids[k]? = some kids[k]:=aAa hlt;generalize kids[k]=q at e1 hg;have hbad:(0<=q/\q<i->False)->AV.bool false=AV.bool res:=λhb=>hF (by
          intro e;rw[hres] at e;simp only[aAd] at e;exact hb (fN.1 e.1.1.1.1.2 k q hg))
        refine Rr ?_;refine aB e1 ?_;refine Rr ?_;refine aI (λh=>?_) (λh=>?_)
        · rw[h]
          refine Rr ?_;exact aA nn ⟨hbad (by simp at h;omega),rfl,rfl⟩
        · have g1:0<=q:=su h
          rw[h];refine Rr ?_;refine aB e1 ?_;refine Rr ?_;refine aI (λh=>?_) (λh=>?_)
          · refine Rr ?_
            exact aA nn ⟨hbad (by simp at h;omega),rfl,rfl⟩
          · have g2:q<i:=su h
            refine Rr ?_;refine .mk (k+1) [(0,0)] ⟨om,λj w2 hj hw2=>?_⟩ (aE _ rfl ⟨aL 0 (.cons (bB _) .nil),trivial⟩ ⟨aJ,aF,⟨_,rfl,.w64 om oq⟩,trivial⟩) om;rcases aAr j k with hj'|hj'
            · exact hall j w2 hj' hw2
            · have hjk:j=k:=om
              rw[hjk,hg] at hw2;cases hw2;exact⟨g1,g2⟩
      · have hk':k=kids.length:=by rw[aK] at h;simp at h;omega
        have hkin:qD i kids=true:=fN.2 λj q hj=>hall j q (by rw[hk'];exact(aAg.1 hj).1) hj
        clear hall h hk hk';refine Rr ?_;repeat' (refine aI (λh=>?_) (λh=>?_)<;>((try rw[h]);refine Rr ?_))
        all_goals first
          | exact aA nn ⟨hF (by
              intro e;rw[hres] at e;clear hub hcb hcmp hF;simp_all[aK,cE];try omega),rfl,rfl⟩
          | (refine hcb.go ?_
             cases cb<;>refine Rr ?_<;>(repeat' (refine aI (λh=>?_) (λh=>?_)<;>((try rw[h]);refine Rr ?_))))
        all_goals first
          | exact aA nn ⟨hF (by
              intro e;rw[hres] at e;clear hub hcb hcmp hF;simp_all[aK,cE,aC];try omega),rfl,rfl⟩
          | skip
        all_goals
          have hrs:res=fD vals:=by
            rw[hres];clear hub hcb hcmp hF;simp_all[aK,cE,aC];try omega
          refine bA.at bE (λk:Nat=>1<=k/\k<=max 1 vals.length/\∀(j:Nat) (a b:aQ),j+1<k->vals[j]? = some a->vals[j+1]? = some b->cJ a b<0)
            (λk=>⟨[(3,.ptr 0 0 0),(9,.int .i64 k)],[(0,.row 57 12 [cW ⟨2,name,lo,hi,ws,ls,vals,kids,.mk vk vn vs vks⟩])],1,136⟩) (λk=>vals.length-k) 1 [(0,0)] ⟨om,om,λj a b hj=>om⟩
            (aE _ rfl ⟨aL 0 (.cons (bB _) .nil),trivial⟩ ⟨aF,aJ,trivial⟩) ?_
          rintro k ⟨hk1,hk2,hall⟩;refine Rr ?_;refine aI (λh=>?_) (λh=>?_)
          · have hlt:k<vals.length:=Jp h
            obtain⟨p1,p2,p3,p4,pm,pg,-,ep⟩:=cX (l:=vals) (k:=k-1) om;obtain⟨q1,q2,q3,q4,qm,qg,-,eq⟩:=cX (l:=vals) (k:=k) hlt;have hw1:IntKind.i64.wrap ((k:Int)-1)=((k-1:Nat):Int):=w64 om oq;have hc:=hcmp _ pm (.mk q1 q2 q3 q4);obtain⟨c,hc0⟩:∃c,c=cJ (.mk p1 p2 p3 p4) (.mk q1 q2 q3 q4):=⟨_,rfl⟩
            rw[<-hc0] at hc;refine Rr ?_;rw[hw1];refine Rr ?_;repeat((first|refine aB ep ?_|refine aB eq ?_|refine bQ ?_);refine Rr ?_)
            refine hc.go ?_;refine Rr ?_;repeat((first|refine aB ep ?_|refine aB eq ?_|refine bQ ?_);refine Rr ?_)
            refine aI (λh=>?_) (λh=>?_)
            · refine Rr ?_
              refine aA nn ⟨hF ?_,rfl,rfl⟩;intro e;rw[hrs] at e;have:=mH e (k-1) _ _ pg (by rw[show k-1+1=k by omega];exact qg);rw[<-hc0] at this;simp at h;omega
            · refine Rr ?_
              refine .mk (k+1) [(0,0)] ⟨om,om,λj a b hj ha hb=>?_⟩ (aE _ rfl ⟨aL 0 (.cons (bB _) .nil),trivial⟩ ⟨aF,⟨_,rfl,.w64 om oq⟩,trivial⟩) om;rcases aAr (j+1) k with hj'|hj'
              · exact hall j a b hj' ha hb
              · have hjk:j=k-1:=om
                rw[hjk,pg] at ha;rw[hjk,show k-1+1=k by omega,qg] at hb;cases ha;cases hb;rw[<-hc0];simpa using h
          · have hge:vals.length<=k:=Jd h
            refine Rr ?_;refine aA nn ⟨?_,rfl,rfl⟩;rw[hrs,mL λj a b ha hb=>hall j a b (by have:=(aAg.1 hb).1;omega) ha hb]
  · refine Rr ?_
    refine hub.go ?_ (.cons (bB _) .nil);cases ub with
    | false=>
      refine Rr ?_;exact aA nn ⟨hF (by intro e;rw[hres] at e;simp at e),rfl,rfl⟩
    | true=>
      refine Rr ?_;refine bA.at bE (λk:Nat=>k<=kids.length/\∀(j:Nat) (q:Int),j<k->kids[j]? = some q->0<=q/\q<i)
        (λk=>⟨[(0,.int .i64 i),(3,.ptr 0 0 0),(6,.int .i64 k)],[(0,.row 57 12 [cW ⟨3,name,lo,hi,ws,ls,vals,kids,.mk vk vn vs vks⟩])],1,136⟩) (λk=>kids.length-k) 0 [(0,0)] ⟨sq,sq⟩
        (aE _ rfl ⟨aL 0 (.cons (bB _) .nil),trivial⟩ ⟨aJ,aF,aJ,trivial⟩) ?_
      rintro k ⟨hk,hall⟩;refine Rr ?_;refine aI (λh=>?_) (λh=>?_)
      · have hlt:k<kids.length:=by rw[aK] at h;simpa using h
        have e1:(bL kids)[(k:Int).toNat]? = some (.int .i64 kids[k]):=by rw[aAc,bP,aAa hlt];rfl
        have hg:kids[k]? = some kids[k]:=aAa hlt;generalize kids[k]=q at e1 hg;have hbad:(0<=q/\q<i->False)->AV.bool false=AV.bool res:=λhb=>hF (by
          intro e;rw[hres] at e;simp only[aAd] at e;exact hb (fN.1 e.1.1.1.1.2 k q hg))
        refine Rr ?_;refine aB e1 ?_;refine Rr ?_;refine aI (λh=>?_) (λh=>?_)
        · rw[h]
          refine Rr ?_;exact aA nn ⟨hbad (by simp at h;omega),rfl,rfl⟩
        · have g1:0<=q:=su h
          rw[h];refine Rr ?_;refine aB e1 ?_;refine Rr ?_;refine aI (λh=>?_) (λh=>?_)
          · refine Rr ?_
            exact aA nn ⟨hbad (by simp at h;omega),rfl,rfl⟩
          · have g2:q<i:=su h
            refine Rr ?_;refine .mk (k+1) [(0,0)] ⟨om,λj w2 hj hw2=>?_⟩ (aE _ rfl ⟨aL 0 (.cons (bB _) .nil),trivial⟩ ⟨aJ,aF,⟨_,rfl,.w64 om oq⟩,trivial⟩) om;rcases aAr j k with hj'|hj'
            · exact hall j w2 hj' hw2
            · have hjk:j=k:=om
              rw[hjk,hg] at hw2;cases hw2;exact⟨g1,g2⟩
      · have hk':k=kids.length:=by rw[aK] at h;simp at h;omega
        have hkin:qD i kids=true:=fN.2 λj q hj=>hall j q (by rw[hk'];exact(aAg.1 hj).1) hj
        clear hall h hk hk';refine Rr ?_;repeat' (refine aI (λh=>?_) (λh=>?_)<;>((try rw[h]);refine Rr ?_))
        all_goals first
          | exact aA nn ⟨hF (by
              intro e;rw[hres] at e;clear hub hcb hcmp hF;simp_all[aK,cE];try omega),rfl,rfl⟩
          | (refine hcb.go ?_
             cases cb<;>refine Rr ?_<;>(repeat' (refine aI (λh=>?_) (λh=>?_)<;>((try rw[h]);refine Rr ?_))))
        all_goals first
          | exact aA nn ⟨hF (by
              intro e;rw[hres] at e;clear hub hcb hcmp hF;simp_all[aK,cE,aC];try omega),rfl,rfl⟩
          | skip
        all_goals
          have hrs:res=fD vals:=by
            rw[hres];clear hub hcb hcmp hF;simp_all[aK,cE,aC];try omega
          refine bA.at bE (λk:Nat=>1<=k/\k<=max 1 vals.length/\∀(j:Nat) (a b:aQ),j+1<k->vals[j]? = some a->vals[j+1]? = some b->cJ a b<0)
            (λk=>⟨[(3,.ptr 0 0 0),(9,.int .i64 k)],[(0,.row 57 12 [cW ⟨3,name,lo,hi,ws,ls,vals,kids,.mk vk vn vs vks⟩])],1,136⟩) (λk=>vals.length-k) 1 [(0,0)] ⟨om,om,λj a b hj=>om⟩
            (aE _ rfl ⟨aL 0 (.cons (bB _) .nil),trivial⟩ ⟨aF,aJ,trivial⟩) ?_
          rintro k ⟨hk1,hk2,hall⟩;refine Rr ?_;refine aI (λh=>?_) (λh=>?_)
          · have hlt:k<vals.length:=Jp h
            obtain⟨p1,p2,p3,p4,pm,pg,-,ep⟩:=cX (l:=vals) (k:=k-1) om;obtain⟨q1,q2,q3,q4,qm,qg,-,eq⟩:=cX (l:=vals) (k:=k) hlt;have hw1:IntKind.i64.wrap ((k:Int)-1)=((k-1:Nat):Int):=w64 om oq;have hc:=hcmp _ pm (.mk q1 q2 q3 q4);obtain⟨c,hc0⟩:∃c,c=cJ (.mk p1 p2 p3 p4) (.mk q1 q2 q3 q4):=⟨_,rfl⟩
            rw[<-hc0] at hc;refine Rr ?_;rw[hw1];refine Rr ?_;repeat((first|refine aB ep ?_|refine aB eq ?_|refine bQ ?_);refine Rr ?_)
            refine hc.go ?_;refine Rr ?_;repeat((first|refine aB ep ?_|refine aB eq ?_|refine bQ ?_);refine Rr ?_)
            refine aI (λh=>?_) (λh=>?_)
            · refine Rr ?_
              refine aA nn ⟨hF ?_,rfl,rfl⟩;intro e;rw[hrs] at e;have:=mH e (k-1) _ _ pg (by rw[show k-1+1=k by omega];exact qg);rw[<-hc0] at this;simp at h;omega
            · refine Rr ?_
              refine .mk (k+1) [(0,0)] ⟨om,om,λj a b hj ha hb=>?_⟩ (aE _ rfl ⟨aL 0 (.cons (bB _) .nil),trivial⟩ ⟨aF,⟨_,rfl,.w64 om oq⟩,trivial⟩) om;rcases aAr (j+1) k with hj'|hj'
              · exact hall j a b hj' ha hb
              · have hjk:j=k-1:=om
                rw[hjk,pg] at ha;rw[hjk,show k-1+1=k by omega,qg] at hb;cases ha;cases hb;rw[<-hc0];simpa using h
          · have hge:vals.length<=k:=Jd h
            refine Rr ?_;refine aA nn ⟨?_,rfl,rfl⟩;rw[hrs,mL λj a b ha hb=>hall j a b (by have:=(aAg.1 hb).1;omega) ha hb]
  · refine Rr ?_
    refine hub.go ?_ (.cons (bB _) .nil);cases ub with
    | false=>
      refine Rr ?_;exact aA nn ⟨hF (by intro e;rw[hres] at e;simp at e),rfl,rfl⟩
    | true=>
      refine Rr ?_;refine bA.at bE (λk:Nat=>k<=kids.length/\∀(j:Nat) (q:Int),j<k->kids[j]? = some q->0<=q/\q<i)
        (λk=>⟨[(0,.int .i64 i),(3,.ptr 0 0 0),(6,.int .i64 k)],[(0,.row 57 12 [cW ⟨4,name,lo,hi,ws,ls,vals,kids,.mk vk vn vs vks⟩])],1,136⟩) (λk=>kids.length-k) 0 [(0,0)] ⟨sq,sq⟩
        (aE _ rfl ⟨aL 0 (.cons (bB _) .nil),trivial⟩ ⟨aJ,aF,aJ,trivial⟩) ?_
      rintro k ⟨hk,hall⟩;refine Rr ?_;refine aI (λh=>?_) (λh=>?_)
      · have hlt:k<kids.length:=by rw[aK] at h;simpa using h
        have e1:(bL kids)[(k:Int).toNat]? = some (.int .i64 kids[k]):=by rw[aAc,bP,aAa hlt];rfl
        have hg:kids[k]? = some kids[k]:=aAa hlt;generalize kids[k]=q at e1 hg;have hbad:(0<=q/\q<i->False)->AV.bool false=AV.bool res:=λhb=>hF (by
          intro e;rw[hres] at e;simp only[aAd] at e;exact hb (fN.1 e.1.1.1.1.2 k q hg))
        refine Rr ?_;refine aB e1 ?_;refine Rr ?_;refine aI (λh=>?_) (λh=>?_)
        · rw[h]
          refine Rr ?_;exact aA nn ⟨hbad (by simp at h;omega),rfl,rfl⟩
        · have g1:0<=q:=su h
          rw[h];refine Rr ?_;refine aB e1 ?_;refine Rr ?_;refine aI (λh=>?_) (λh=>?_)
          · refine Rr ?_
            exact aA nn ⟨hbad (by simp at h;omega),rfl,rfl⟩
          · have g2:q<i:=su h
            refine Rr ?_;refine .mk (k+1) [(0,0)] ⟨om,λj w2 hj hw2=>?_⟩ (aE _ rfl ⟨aL 0 (.cons (bB _) .nil),trivial⟩ ⟨aJ,aF,⟨_,rfl,.w64 om oq⟩,trivial⟩) om;rcases aAr j k with hj'|hj'
            · exact hall j w2 hj' hw2
            · have hjk:j=k:=om
              rw[hjk,hg] at hw2;cases hw2;exact⟨g1,g2⟩
      · have hk':k=kids.length:=by rw[aK] at h;simp at h;omega
        have hkin:qD i kids=true:=fN.2 λj q hj=>hall j q (by rw[hk'];exact(aAg.1 hj).1) hj
        clear hall h hk hk';refine Rr ?_;repeat' (refine aI (λh=>?_) (λh=>?_)<;>((try rw[h]);refine Rr ?_))
        all_goals first
          | exact aA nn ⟨hF (by
              intro e;rw[hres] at e;clear hub hcb hcmp hF;simp_all[aK,cE];try omega),rfl,rfl⟩
          | (refine hcb.go ?_
             cases cb<;>refine Rr ?_<;>(repeat' (refine aI (λh=>?_) (λh=>?_)<;>((try rw[h]);refine Rr ?_))))
        all_goals first
          | exact aA nn ⟨hF (by
              intro e;rw[hres] at e;clear hub hcb hcmp hF;simp_all[aK,cE,aC];try omega),rfl,rfl⟩
          | skip
        all_goals
          have hrs:res=fD vals:=by
            rw[hres];clear hub hcb hcmp hF;simp_all[aK,cE,aC];try omega
          refine bA.at bE (λk:Nat=>1<=k/\k<=max 1 vals.length/\∀(j:Nat) (a b:aQ),j+1<k->vals[j]? = some a->vals[j+1]? = some b->cJ a b<0)
            (λk=>⟨[(3,.ptr 0 0 0),(9,.int .i64 k)],[(0,.row 57 12 [cW ⟨4,name,lo,hi,ws,ls,vals,kids,.mk vk vn vs vks⟩])],1,136⟩) (λk=>vals.length-k) 1 [(0,0)] ⟨om,om,λj a b hj=>om⟩
            (aE _ rfl ⟨aL 0 (.cons (bB _) .nil),trivial⟩ ⟨aF,aJ,trivial⟩) ?_
          rintro k ⟨hk1,hk2,hall⟩;refine Rr ?_;refine aI (λh=>?_) (λh=>?_)
          · have hlt:k<vals.length:=Jp h
            obtain⟨p1,p2,p3,p4,pm,pg,-,ep⟩:=cX (l:=vals) (k:=k-1) om;obtain⟨q1,q2,q3,q4,qm,qg,-,eq⟩:=cX (l:=vals) (k:=k) hlt;have hw1:IntKind.i64.wrap ((k:Int)-1)=((k-1:Nat):Int):=w64 om oq;have hc:=hcmp _ pm (.mk q1 q2 q3 q4);obtain⟨c,hc0⟩:∃c,c=cJ (.mk p1 p2 p3 p4) (.mk q1 q2 q3 q4):=⟨_,rfl⟩
            rw[<-hc0] at hc;refine Rr ?_;rw[hw1];refine Rr ?_;repeat((first|refine aB ep ?_|refine aB eq ?_|refine bQ ?_);refine Rr ?_)
            refine hc.go ?_;refine Rr ?_;repeat((first|refine aB ep ?_|refine aB eq ?_|refine bQ ?_);refine Rr ?_)
            refine aI (λh=>?_) (λh=>?_)
            · refine Rr ?_
              refine aA nn ⟨hF ?_,rfl,rfl⟩;intro e;rw[hrs] at e;have:=mH e (k-1) _ _ pg (by rw[show k-1+1=k by omega];exact qg);rw[<-hc0] at this;simp at h;omega
            · refine Rr ?_
              refine .mk (k+1) [(0,0)] ⟨om,om,λj a b hj ha hb=>?_⟩ (aE _ rfl ⟨aL 0 (.cons (bB _) .nil),trivial⟩ ⟨aF,⟨_,rfl,.w64 om oq⟩,trivial⟩) om;rcases aAr (j+1) k with hj'|hj'
              · exact hall j a b hj' ha hb
              · have hjk:j=k-1:=om
                rw[hjk,pg] at ha;rw[hjk,show k-1+1=k by omega,qg] at hb;cases ha;cases hb;rw[<-hc0];simpa using h
          · have hge:vals.length<=k:=Jd h
            refine Rr ?_;refine aA nn ⟨?_,rfl,rfl⟩;rw[hrs,mL λj a b ha hb=>hall j a b (by have:=(aAg.1 hb).1;omega) ha hb]
  · refine Rr ?_
    refine hub.go ?_ (.cons (bB _) .nil);cases ub with
    | false=>
      refine Rr ?_;exact aA nn ⟨hF (by intro e;rw[hres] at e;simp at e),rfl,rfl⟩
    | true=>
      refine Rr ?_;repeat' (refine aI (λh=>?_) (λh=>?_)<;>((try rw[h]);refine Rr ?_))
      all_goals first
        | exact aA nn ⟨hF (by intro e;rw[hres] at e;simp at e;omega),rfl,rfl⟩
        | (exfalso
           simp at *;omega)
end Go.Proofs.YtidjhgajglebnaaGreatDoor
