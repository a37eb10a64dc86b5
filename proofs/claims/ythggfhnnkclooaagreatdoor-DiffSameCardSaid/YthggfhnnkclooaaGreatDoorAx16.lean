/- A part of the proof. -/
import Derived.Test.YthggfhnnkclooaaGreatDoorAx15
set_option linter.unusedSectionVars false
set_option linter.unusedVariables false
set_option linter.unusedSimpArgs false
set_option maxRecDepth 1000000
set_option maxHeartbeats 16000000
namespace Go.Proofs.YthggfhnnkclooaaGreatDoor
open Go Go.Ax Go.Proofs Tryz
theorem NJ(i:Nat)(x:Nd)(hi:i<=4294967296)(hx:sU x):aX prog [] 118 [.int .i64 i,cK x] (.bool (dL i x)):=by
  have b1:=hx.kids;have b2:=hx.values;have hcmp:∀a∈x.values,∀b,aX prog [] 49 [bY a,bY b] (.int .i64 (cN a b)):=λa ha b=>vF a b (hx.valuesI a ha).1
  have hub:=SG x;have hcb:=UU x.name hx.name;have hres:dL i x=(jF x && (decide (0<=x.kind) && decide (x.kind<=4)) && Go.Ax.t7 i x.kids && (decide (x.kind≠2) || (decide (1<=x.kids.length) && decide (x.kids.length<=256) && decide (x.weights.length=x.kids.length) && (decide (x.labels.length=0) || decide (x.labels.length=x.kids.length)))) &&
    (decide (x.kind≠3) || (decide (x.kids.length<=256) && (decide (x.name=[]) || (fO x.name && decide (x.kids.length<=16))))) && (decide (x.kind≠4) || decide (x.kids.length=x.values.length+1)) && fX x.values):=rfl
  clear hx;generalize dL i x=res at hres;generalize jF x=ub at hub hres;generalize fO x.name=cb at hcb hres;obtain⟨kind,name,lo,hi,ws,ls,vals,kids,⟨vk,vn,vs,vks⟩⟩:=x;simp only at b1 b2 hres hcmp hcb;have hw4:IntKind.i64.wrap ((vals.length:Int)+1)=(vals.length:Int)+1:=w64 rfl oq;have hF:(res=true->False)->AV.bool false=AV.bool res:=λh1=>by
    cases hr:res with
    | false=>rfl
    | true=>exact(h1 hr).elim
  refine aG bJ func118 rfl ?_;rcases(show (0<=kind/\kind<=4)\/(kind<0\/4<kind) by omega) with hk0|hk
  · refine Z ?_
    refine hub.go ?_ (.cons (bH _) .nil);cases ub with
    | false=>
      refine Z ?_;exact aA nn ⟨hF (by intro e;rw[hres] at e;simp at e),rfl,rfl⟩
    | true=>
      refine Z ?_;rw[show decide (kind<0)=false from ZN om];refine Z ?_;rw[show decide (kind>4)=false from ZN om];refine Z ?_;refine bI.at bJ (λk:Nat=>k<=kids.length/\∀(j:Nat) (q:Int),j<k->kids[j]? = some q->0<=q/\q<i)
        (λk=>⟨[(0,.int .i64 i),(3,.ptr 0 0 0),(6,.int .i64 k)],[(0,.row 59 12 [cK ⟨kind,name,lo,hi,ws,ls,vals,kids,.mk vk vn vs vks⟩])],1,136⟩) (λk=>kids.length-k) 0 [(0,0)] ⟨sq,sq⟩
        (aK _ rfl ⟨aI 0 (.cons (bH _) .nil),trivial⟩ ⟨aF,aN,aF,trivial⟩) ?_
      rintro k ⟨hk,hall⟩;refine Z ?_;refine aL (λh=>?_) (λh=>?_)
      · have hlt:k<kids.length:=by rw[aH] at h;simpa using h
        have e1:(aV kids)[(k:Int).toNat]? = some (.int .i64 kids[k]):=by rw[Yy,bK,Yw hlt];rfl
        have hg:kids[k]? = some kids[k]:=Yw hlt;generalize kids[k]=q at e1 hg;have hbad:(0<=q/\q<i->False)->AV.bool false=AV.bool res:=λhb=>hF (by
          intro e;rw[hres] at e;simp only[Y1] at e;exact hb (pE.1 e.1.1.1.1.2 k q hg))
        refine Z ?_;refine aC e1 ?_;refine Z ?_;refine aL (λh=>?_) (λh=>?_)
        · rw[h]
          refine Z ?_;exact aA nn ⟨hbad (by simp at h;omega),rfl,rfl⟩
        · have g1:0<=q:=su h
          rw[h];refine Z ?_;refine aC e1 ?_;refine Z ?_;refine aL (λh=>?_) (λh=>?_)
          · refine Z ?_
            exact aA nn ⟨hbad (by simp at h;omega),rfl,rfl⟩
          · have g2:q<i:=su h
            refine Z ?_;refine .mk (k+1) [(0,0)] ⟨om,λj w2 hj hw2=>?_⟩ (aK _ rfl ⟨aI 0 (.cons (bH _) .nil),trivial⟩ ⟨aF,aN,⟨_,rfl,.w64 om oq⟩,trivial⟩) om;rcases ZG j k with hj'|hj'
            · exact hall j w2 hj' hw2
            · have hjk:j=k:=om
              rw[hjk,hg] at hw2;cases hw2;exact⟨g1,g2⟩
      · have hk':k=kids.length:=by rw[aH] at h;simp at h;omega
        have hkin:Go.Ax.t7 i kids=true:=pE.2 λj q hj=>hall j q (by rw[hk'];exact(Y0.1 hj).1) hj
        clear hall h hk hk';refine Z ?_;repeat' (refine aL (λh=>?_) (λh=>?_)<;>((try rw[h]);refine Z ?_))
        all_goals first
          | exact aA nn ⟨hF (by
              intro e;rw[hres] at e;clear hub hcb hcmp hF;simp_all[aH,cS];try omega),rfl,rfl⟩
          | (refine hcb.go ?_
             cases cb<;>refine Z ?_<;>(repeat' (refine aL (λh=>?_) (λh=>?_)<;>((try rw[h]);refine Z ?_))))
        all_goals first
          | exact aA nn ⟨hF (by
              intro e;rw[hres] at e;clear hub hcb hcmp hF;simp_all[aH,cS,aB];try omega),rfl,rfl⟩
          | skip
        all_goals
          have hrs:res=fX vals:=by
            rw[hres];clear hub hcb hcmp hF;simp_all[aH,cS,aB];try omega
          refine bI.at bJ (λk:Nat=>1<=k/\k<=max 1 vals.length/\∀(j:Nat) (a b:bD),j+1<k->vals[j]? = some a->vals[j+1]? = some b->cN a b<0)
            (λk=>⟨[(3,.ptr 0 0 0),(9,.int .i64 k)],[(0,.row 59 12 [cK ⟨kind,name,lo,hi,ws,ls,vals,kids,.mk vk vn vs vks⟩])],1,136⟩) (λk=>vals.length-k) 1 [(0,0)] ⟨om,om,λj a b hj=>om⟩
            (aK _ rfl ⟨aI 0 (.cons (bH _) .nil),trivial⟩ ⟨aN,aF,trivial⟩) ?_
          rintro k ⟨hk1,hk2,hall⟩;refine Z ?_;refine aL (λh=>?_) (λh=>?_)
          · have hlt:k<vals.length:=MX h
            obtain⟨p1,p2,p3,p4,pm,pg,-,ep⟩:=dE (l:=vals) (k:=k-1) om;obtain⟨q1,q2,q3,q4,qm,qg,-,eq⟩:=dE (l:=vals) (k:=k) hlt;have hw1:IntKind.i64.wrap ((k:Int)-1)=((k-1:Nat):Int):=w64 om oq;have hc:=hcmp _ pm (.mk q1 q2 q3 q4);obtain⟨c,hc0⟩:∃c,c=cN (.mk p1 p2 p3 p4) (.mk q1 q2 q3 q4):=⟨_,rfl⟩
            rw[<-hc0] at hc;refine Z ?_;rw[hw1];refine Z ?_;repeat((first|refine aC ep ?_|refine aC eq ?_|refine aY ?_);refine Z ?_)
            refine hc.go ?_;refine Z ?_;repeat((first|refine aC ep ?_|refine aC eq ?_|refine aY ?_);refine Z ?_)
            refine aL (λh=>?_) (λh=>?_)
            · refine Z ?_
              refine aA nn ⟨hF ?_,rfl,rfl⟩;intro e;rw[hrs] at e;have:=yN e (k-1) _ _ pg (by rw[show k-1+1=k by omega];exact qg);rw[<-hc0] at this;simp at h;omega
            · refine Z ?_
              refine .mk (k+1) [(0,0)] ⟨om,om,λj a b hj ha hb=>?_⟩ (aK _ rfl ⟨aI 0 (.cons (bH _) .nil),trivial⟩ ⟨aN,⟨_,rfl,.w64 om oq⟩,trivial⟩) om;rcases ZG (j+1) k with hj'|hj'
              · exact hall j a b hj' ha hb
              · have hjk:j=k-1:=om
                rw[hjk,pg] at ha;rw[hjk,show k-1+1=k by omega,qg] at hb;cases ha;cases hb;rw[<-hc0];simpa using h
          · have hge:vals.length<=k:=NQ h
            refine Z ?_;refine aA nn ⟨?_,rfl,rfl⟩;rw[hrs,x7 λj a b ha hb=>hall j a b (by have:=(Y0.1 hb).1;omega) ha hb]
  · refine Z ?_
    refine hub.go ?_ (.cons (bH _) .nil);cases ub with
    | false=>
      refine Z ?_;exact aA nn ⟨hF (by intro e;rw[hres] at e;simp at e),rfl,rfl⟩
    | true=>
      refine Z ?_;repeat' (refine aL (λh=>?_) (λh=>?_)<;>((try rw[h]);refine Z ?_))
      all_goals first
        | exact aA nn ⟨hF (by intro e;rw[hres] at e;simp at e;omega),rfl,rfl⟩
        | (exfalso
           simp at *;omega)
end Go.Proofs.YthggfhnnkclooaaGreatDoor
