/- A part of the proof. -/
import Derived.Test.YtidjhgajglebnaaGreatDoorAx14
set_option linter.unusedVariables false
set_option linter.unusedSimpArgs false
namespace Go.Proofs.YtidjhgajglebnaaGreatDoor
open Go Go.Ax Go.Proofs Tryz
set_option maxRecDepth 100000
set_option maxHeartbeats 8000000
theorem KM(i:Nat)(x:Nd)(hi:i<=4294967296)(hx:rJ x):aZ prog [] 70 [.int .i64 i,cN x] (.bool (c7 i x)):=by
  have b1:=hx.kids;have b2:=hx.values;have hcmp:∀a∈x.values,∀b,aZ prog [] 93 [cK a,cK b] (.int .i64 (bR a b)):=fun a ha b=>xU a b (hx.valuesI a ha).1
  have hub:=O3 x;have hcb:=QT x.name hx.name;have hres:c7 i x=(jH x && (decide (0<=x.kind) && decide (x.kind<=4)) && mM i x.kids && (decide (x.kind≠2) || (decide (1<=x.kids.length) && decide (x.kids.length<=256) && decide (x.weights.length=x.kids.length) && (decide (x.labels.length=0) || decide (x.labels.length=x.kids.length)))) &&
    (decide (x.kind≠3) || (decide (x.kids.length<=256) && (decide (x.name=[]) || (eH x.name && decide (x.kids.length<=16))))) && (decide (x.kind≠4) || decide (x.kids.length=x.values.length+1)) && dQ x.values):=rfl
  clear hx;generalize c7 i x=res at hres;generalize jH x=ub at hub hres;generalize eH x.name=cb at hcb hres;obtain⟨kind,name,lo,hi,ws,ls,vals,kids,⟨vk,vn,vs,vks⟩⟩:=x;simp only at b1 b2 hres hcmp hcb;have hw4:IntKind.i64.wrap ((vals.length:Int)+1)=(vals.length:Int)+1:=w64 rfl ⟨by omega,by omega⟩;have hF:(res=true->False)->AV.bool false=AV.bool res:=fun h1=>by
    cases hr:res with
    | false=>rfl
    | true=>exact(h1 hr).elim
  refine aG bB func70 rfl ?_;rcases(show kind=0∨kind=1∨kind=2∨kind=3∨kind=4∨(kind<0∨4<kind) by omega) with rfl|rfl|rfl|rfl|rfl|hk
  · refine Rr ?_
    refine hub.go ?_ (.cons (aW _) .nil);cases ub with
    | false=>
      refine Rr ?_;exact aA nn ⟨hF (by intro e;rw[hres] at e;simp at e),rfl,rfl⟩
    | true=>
      refine Rr ?_;refine bA.at bB (fun k:Nat=>k<=kids.length/\∀(j:Nat) (q:Int),j<k->kids[j]? = some q->0<=q/\q<i)
        (fun k=>⟨[(0,.int .i64 i),(3,.ptr 0 0 0),(6,.int .i64 k)],[(0,.row 57 12 [cN ⟨0,name,lo,hi,ws,ls,vals,kids,.mk vk vn vs vks⟩])],1,136⟩) (fun k=>kids.length-k) 0 [(0,0)] ⟨by simp,by simp⟩
        (aF _ rfl ⟨aK 0 (.cons (aW _) .nil),trivial⟩ ⟨aJ,aI,aJ,trivial⟩) ?_
      rintro k ⟨hk,hall⟩;refine Rr ?_;refine aD (fun h=>?_) (fun h=>?_)
      · have hlt:k<kids.length:=by rw[aH] at h;simpa using h
        have e1:(bG kids)[(k:Int).toNat]? = some (.int .i64 kids[k]):=by rw[T4,bL,Ty hlt];rfl
        have hg:kids[k]? = some kids[k]:=Ty hlt;generalize kids[k]=q at e1 hg;have hbad:(0<=q/\q<i->False)->AV.bool false=AV.bool res:=fun hb=>hF (by
          intro e;rw[hres] at e;simp only[Tz] at e;exact hb (dX.1 e.1.1.1.1.2 k q hg))
        refine Rr ?_;refine aC e1 ?_;refine Rr ?_;refine aD (fun h=>?_) (fun h=>?_)
        · rw[h]
          refine Rr ?_;exact aA nn ⟨hbad (by simp at h;omega),rfl,rfl⟩
        · have g1:0<=q:=by simpa using h
          rw[h];refine Rr ?_;refine aC e1 ?_;refine Rr ?_;refine aD (fun h=>?_) (fun h=>?_)
          · refine Rr ?_
            exact aA nn ⟨hbad (by simp at h;omega),rfl,rfl⟩
          · have g2:q<i:=by simpa using h
            refine Rr ?_;refine .mk (k+1) [(0,0)] ⟨by omega,fun j w2 hj hw2=>?_⟩ (aF _ rfl ⟨aK 0 (.cons (aW _) .nil),trivial⟩ ⟨aJ,aI,⟨_,rfl,.wo⟩,trivial⟩) (by omega);rcases UG j k with hj'|hj'
            · exact hall j w2 hj' hw2
            · have hjk:j=k:=by omega
              rw[hjk,hg] at hw2;cases hw2;exact⟨g1,g2⟩
      · have hk':k=kids.length:=by rw[aH] at h;simp at h;omega
        have hkin:mM i kids=true:=dX.2 fun j q hj=>hall j q (by rw[hk'];exact(T0.1 hj).1) hj
        clear hall h hk hk';refine Rr ?_;repeat' (refine aD (fun h=>?_) (fun h=>?_)<;>((try rw[h]);refine Rr ?_))
        all_goals first
          | exact aA nn ⟨hF (by
              intro e;rw[hres] at e;clear hub hcb hcmp hF;simp_all[aH,cA];try omega),rfl,rfl⟩
          | (refine hcb.go ?_
             cases cb<;>refine Rr ?_<;>(repeat' (refine aD (fun h=>?_) (fun h=>?_)<;>((try rw[h]);refine Rr ?_))))
        all_goals first
          | exact aA nn ⟨hF (by
              intro e;rw[hres] at e;clear hub hcb hcmp hF;simp_all[aH,cA,aB];try omega),rfl,rfl⟩
          | skip
        all_goals
          have hrs:res=dQ vals:=by
            rw[hres];clear hub hcb hcmp hF;simp_all[aH,cA,aB];try omega
          refine bA.at bB (fun k:Nat=>1<=k/\k<=max 1 vals.length/\∀(j:Nat) (a b:aT),j+1<k->vals[j]? = some a->vals[j+1]? = some b->bR a b<0)
            (fun k=>⟨[(3,.ptr 0 0 0),(9,.int .i64 k)],[(0,.row 57 12 [cN ⟨0,name,lo,hi,ws,ls,vals,kids,.mk vk vn vs vks⟩])],1,136⟩) (fun k=>vals.length-k) 1 [(0,0)] ⟨by omega,by omega,fun j a b hj=>by omega⟩
            (aF _ rfl ⟨aK 0 (.cons (aW _) .nil),trivial⟩ ⟨aI,aJ,trivial⟩) ?_
          rintro k ⟨hk1,hk2,hall⟩;refine Rr ?_;refine aD (fun h=>?_) (fun h=>?_)
          · have hlt:k<vals.length:=GE h
            obtain⟨p1,p2,p3,p4,pm,pg,-,ep⟩:=bZ (l:=vals) (k:=k-1) (by omega);obtain⟨q1,q2,q3,q4,qm,qg,-,eq⟩:=bZ (l:=vals) (k:=k) hlt;have hw1:IntKind.i64.wrap ((k:Int)-1)=((k-1:Nat):Int):=w64 (by omega) ⟨by omega,by omega⟩;have hc:=hcmp _ pm (.mk q1 q2 q3 q4);obtain⟨c,hc0⟩:∃c,c=bR (.mk p1 p2 p3 p4) (.mk q1 q2 q3 q4):=⟨_,rfl⟩
            rw[←hc0] at hc;refine Rr ?_;rw[hw1];refine Rr ?_;repeat((first|refine aC ep ?_|refine aC eq ?_|refine bH ?_);refine Rr ?_)
            refine hc.go ?_;refine Rr ?_;repeat((first|refine aC ep ?_|refine aC eq ?_|refine bH ?_);refine Rr ?_)
            refine aD (fun h=>?_) (fun h=>?_)
            · refine Rr ?_
              refine aA nn ⟨hF ?_,rfl,rfl⟩;intro e;rw[hrs] at e;have:=jP e (k-1) _ _ pg (by rw[show k-1+1=k by omega];exact qg);rw[←hc0] at this;simp at h;omega
            · refine Rr ?_
              refine .mk (k+1) [(0,0)] ⟨by omega,by omega,fun j a b hj ha hb=>?_⟩ (aF _ rfl ⟨aK 0 (.cons (aW _) .nil),trivial⟩ ⟨aI,⟨_,rfl,.wo⟩,trivial⟩) (by omega);rcases UG (j+1) k with hj'|hj'
              · exact hall j a b hj' ha hb
              · have hjk:j=k-1:=by omega
                rw[hjk,pg] at ha;rw[hjk,show k-1+1=k by omega,qg] at hb;cases ha;cases hb;rw[←hc0];simpa using h
          · have hge:vals.length<=k:=G5 h
            refine Rr ?_;refine aA nn ⟨?_,rfl,rfl⟩;rw[hrs,jV fun j a b ha hb=>hall j a b (by have:=(T0.1 hb).1;omega) ha hb]
  · refine Rr ?_
    refine hub.go ?_ (.cons (aW _) .nil);cases ub with
    | false=>
      refine Rr ?_;exact aA nn ⟨hF (by intro e;rw[hres] at e;simp at e),rfl,rfl⟩
    | true=>
      refine Rr ?_;refine bA.at bB (fun k:Nat=>k<=kids.length/\∀(j:Nat) (q:Int),j<k->kids[j]? = some q->0<=q/\q<i)
        (fun k=>⟨[(0,.int .i64 i),(3,.ptr 0 0 0),(6,.int .i64 k)],[(0,.row 57 12 [cN ⟨1,name,lo,hi,ws,ls,vals,kids,.mk vk vn vs vks⟩])],1,136⟩) (fun k=>kids.length-k) 0 [(0,0)] ⟨by simp,by simp⟩
        (aF _ rfl ⟨aK 0 (.cons (aW _) .nil),trivial⟩ ⟨aJ,aI,aJ,trivial⟩) ?_
      rintro k ⟨hk,hall⟩;refine Rr ?_;refine aD (fun h=>?_) (fun h=>?_)
      · have hlt:k<kids.length:=by rw[aH] at h;simpa using h
        have e1:(bG kids)[(k:Int).toNat]? = some (.int .i64 kids[k]):=by rw[T4,bL,Ty hlt];rfl
        have hg:kids[k]? = some kids[k]:=Ty hlt;generalize kids[k]=q at e1 hg;have hbad:(0<=q/\q<i->False)->AV.bool false=AV.bool res:=fun hb=>hF (by
          intro e;rw[hres] at e;simp only[Tz] at e;exact hb (dX.1 e.1.1.1.1.2 k q hg))
        refine Rr ?_;refine aC e1 ?_;refine Rr ?_;refine aD (fun h=>?_) (fun h=>?_)
        · rw[h]
          refine Rr ?_;exact aA nn ⟨hbad (by simp at h;omega),rfl,rfl⟩
        · have g1:0<=q:=by simpa using h
          rw[h];refine Rr ?_;refine aC e1 ?_;refine Rr ?_;refine aD (fun h=>?_) (fun h=>?_)
          · refine Rr ?_
            exact aA nn ⟨hbad (by simp at h;omega),rfl,rfl⟩
          · have g2:q<i:=by simpa using h
            refine Rr ?_;refine .mk (k+1) [(0,0)] ⟨by omega,fun j w2 hj hw2=>?_⟩ (aF _ rfl ⟨aK 0 (.cons (aW _) .nil),trivial⟩ ⟨aJ,aI,⟨_,rfl,.wo⟩,trivial⟩) (by omega);rcases UG j k with hj'|hj'
            · exact hall j w2 hj' hw2
            · have hjk:j=k:=by omega
              rw[hjk,hg] at hw2;cases hw2;exact⟨g1,g2⟩
      · have hk':k=kids.length:=by rw[aH] at h;simp at h;omega
        have hkin:mM i kids=true:=dX.2 fun j q hj=>hall j q (by rw[hk'];exact(T0.1 hj).1) hj
        clear hall h hk hk';refine Rr ?_;repeat' (refine aD (fun h=>?_) (fun h=>?_)<;>((try rw[h]);refine Rr ?_))
        all_goals first
          | exact aA nn ⟨hF (by
              intro e;rw[hres] at e;clear hub hcb hcmp hF;simp_all[aH,cA];try omega),rfl,rfl⟩
          | (refine hcb.go ?_
             cases cb<;>refine Rr ?_<;>(repeat' (refine aD (fun h=>?_) (fun h=>?_)<;>((try rw[h]);refine Rr ?_))))
        all_goals first
          | exact aA nn ⟨hF (by
              intro e;rw[hres] at e;clear hub hcb hcmp hF;simp_all[aH,cA,aB];try omega),rfl,rfl⟩
          | skip
        all_goals
          have hrs:res=dQ vals:=by
            rw[hres];clear hub hcb hcmp hF;simp_all[aH,cA,aB];try omega
          refine bA.at bB (fun k:Nat=>1<=k/\k<=max 1 vals.length/\∀(j:Nat) (a b:aT),j+1<k->vals[j]? = some a->vals[j+1]? = some b->bR a b<0)
            (fun k=>⟨[(3,.ptr 0 0 0),(9,.int .i64 k)],[(0,.row 57 12 [cN ⟨1,name,lo,hi,ws,ls,vals,kids,.mk vk vn vs vks⟩])],1,136⟩) (fun k=>vals.length-k) 1 [(0,0)] ⟨by omega,by omega,fun j a b hj=>by omega⟩
            (aF _ rfl ⟨aK 0 (.cons (aW _) .nil),trivial⟩ ⟨aI,aJ,trivial⟩) ?_
          rintro k ⟨hk1,hk2,hall⟩;refine Rr ?_;refine aD (fun h=>?_) (fun h=>?_)
          · have hlt:k<vals.length:=GE h
            obtain⟨p1,p2,p3,p4,pm,pg,-,ep⟩:=bZ (l:=vals) (k:=k-1) (by omega);obtain⟨q1,q2,q3,q4,qm,qg,-,eq⟩:=bZ (l:=vals) (k:=k) hlt;have hw1:IntKind.i64.wrap ((k:Int)-1)=((k-1:Nat):Int):=w64 (by omega) ⟨by omega,by omega⟩;have hc:=hcmp _ pm (.mk q1 q2 q3 q4);obtain⟨c,hc0⟩:∃c,c=bR (.mk p1 p2 p3 p4) (.mk q1 q2 q3 q4):=⟨_,rfl⟩
            rw[←hc0] at hc;refine Rr ?_;rw[hw1];refine Rr ?_;repeat((first|refine aC ep ?_|refine aC eq ?_|refine bH ?_);refine Rr ?_)
            refine hc.go ?_;refine Rr ?_;repeat((first|refine aC ep ?_|refine aC eq ?_|refine bH ?_);refine Rr ?_)
            refine aD (fun h=>?_) (fun h=>?_)
            · refine Rr ?_
              refine aA nn ⟨hF ?_,rfl,rfl⟩;intro e;rw[hrs] at e;have:=jP e (k-1) _ _ pg (by rw[show k-1+1=k by omega];exact qg);rw[←hc0] at this;simp at h;omega
            · refine Rr ?_
              refine .mk (k+1) [(0,0)] ⟨by omega,by omega,fun j a b hj ha hb=>?_⟩ (aF _ rfl ⟨aK 0 (.cons (aW _) .nil),trivial⟩ ⟨aI,⟨_,rfl,.wo⟩,trivial⟩) (by omega);rcases UG (j+1) k with hj'|hj'
              · exact hall j a b hj' ha hb
              · have hjk:j=k-1:=by omega
                rw[hjk,pg] at ha;rw[hjk,show k-1+1=k by omega,qg] at hb;cases ha;cases hb;rw[←hc0];simpa using h
          · have hge:vals.length<=k:=G5 h
            refine Rr ?_;refine aA nn ⟨?_,rfl,rfl⟩;rw[hrs,jV fun j a b ha hb=>hall j a b (by have:=(T0.1 hb).1;omega) ha hb]
  · refine Rr ?_
    refine hub.go ?_ (.cons (aW _) .nil);cases ub with
    | false=>
      refine Rr ?_;exact aA nn ⟨hF (by intro e;rw[hres] at e;simp at e),rfl,rfl⟩
    | true=>
      refine Rr ?_;refine bA.at bB (fun k:Nat=>k<=kids.length/\∀(j:Nat) (q:Int),j<k->kids[j]? = some q->0<=q/\q<i)
        (fun k=>⟨[(0,.int .i64 i),(3,.ptr 0 0 0),(6,.int .i64 k)],[(0,.row 57 12 [cN ⟨2,name,lo,hi,ws,ls,vals,kids,.mk vk vn vs vks⟩])],1,136⟩) (fun k=>kids.length-k) 0 [(0,0)] ⟨by simp,by simp⟩
        (aF _ rfl ⟨aK 0 (.cons (aW _) .nil),trivial⟩ ⟨aJ,aI,aJ,trivial⟩) ?_
      rintro k ⟨hk,hall⟩;refine Rr ?_;refine aD (fun h=>?_) (fun h=>?_)
      · have hlt:k<kids.length:=by rw[aH] at h;simpa using h
        have e1:(bG kids)[(k:Int).toNat]? = some (.int .i64 kids[k]):=by rw[T4,bL,Ty hlt];rfl
        have hg:kids[k]? = some kids[k]:=Ty hlt;generalize kids[k]=q at e1 hg;have hbad:(0<=q/\q<i->False)->AV.bool false=AV.bool res:=fun hb=>hF (by
          intro e;rw[hres] at e;simp only[Tz] at e;exact hb (dX.1 e.1.1.1.1.2 k q hg))
        refine Rr ?_;refine aC e1 ?_;refine Rr ?_;refine aD (fun h=>?_) (fun h=>?_)
        · rw[h]
          refine Rr ?_;exact aA nn ⟨hbad (by simp at h;omega),rfl,rfl⟩
        · have g1:0<=q:=by simpa using h
          rw[h];refine Rr ?_;refine aC e1 ?_;refine Rr ?_;refine aD (fun h=>?_) (fun h=>?_)
          · refine Rr ?_
            exact aA nn ⟨hbad (by simp at h;omega),rfl,rfl⟩
          · have g2:q<i:=by simpa using h
            refine Rr ?_;refine .mk (k+1) [(0,0)] ⟨by omega,fun j w2 hj hw2=>?_⟩ (aF _ rfl ⟨aK 0 (.cons (aW _) .nil),trivial⟩ ⟨aJ,aI,⟨_,rfl,.wo⟩,trivial⟩) (by omega);rcases UG j k with hj'|hj'
            · exact hall j w2 hj' hw2
            · have hjk:j=k:=by omega
              rw[hjk,hg] at hw2;cases hw2;exact⟨g1,g2⟩
      · have hk':k=kids.length:=by rw[aH] at h;simp at h;omega
        have hkin:mM i kids=true:=dX.2 fun j q hj=>hall j q (by rw[hk'];exact(T0.1 hj).1) hj
        clear hall h hk hk';refine Rr ?_;repeat' (refine aD (fun h=>?_) (fun h=>?_)<;>((try rw[h]);refine Rr ?_))
        all_goals first
          | exact aA nn ⟨hF (by
              intro e;rw[hres] at e;clear hub hcb hcmp hF;simp_all[aH,cA];try omega),rfl,rfl⟩
          | (refine hcb.go ?_
             cases cb<;>refine Rr ?_<;>(repeat' (refine aD (fun h=>?_) (fun h=>?_)<;>((try rw[h]);refine Rr ?_))))
        all_goals first
          | exact aA nn ⟨hF (by
              intro e;rw[hres] at e;clear hub hcb hcmp hF;simp_all[aH,cA,aB];try omega),rfl,rfl⟩
          | skip
        all_goals
          have hrs:res=dQ vals:=by
            rw[hres];clear hub hcb hcmp hF;simp_all[aH,cA,aB];try omega
          refine bA.at bB (fun k:Nat=>1<=k/\k<=max 1 vals.length/\∀(j:Nat) (a b:aT),j+1<k->vals[j]? = some a->vals[j+1]? = some b->bR a b<0)
            (fun k=>⟨[(3,.ptr 0 0 0),(9,.int .i64 k)],[(0,.row 57 12 [cN ⟨2,name,lo,hi,ws,ls,vals,kids,.mk vk vn vs vks⟩])],1,136⟩) (fun k=>vals.length-k) 1 [(0,0)] ⟨by omega,by omega,fun j a b hj=>by omega⟩
            (aF _ rfl ⟨aK 0 (.cons (aW _) .nil),trivial⟩ ⟨aI,aJ,trivial⟩) ?_
          rintro k ⟨hk1,hk2,hall⟩;refine Rr ?_;refine aD (fun h=>?_) (fun h=>?_)
          · have hlt:k<vals.length:=GE h
            obtain⟨p1,p2,p3,p4,pm,pg,-,ep⟩:=bZ (l:=vals) (k:=k-1) (by omega);obtain⟨q1,q2,q3,q4,qm,qg,-,eq⟩:=bZ (l:=vals) (k:=k) hlt;have hw1:IntKind.i64.wrap ((k:Int)-1)=((k-1:Nat):Int):=w64 (by omega) ⟨by omega,by omega⟩;have hc:=hcmp _ pm (.mk q1 q2 q3 q4);obtain⟨c,hc0⟩:∃c,c=bR (.mk p1 p2 p3 p4) (.mk q1 q2 q3 q4):=⟨_,rfl⟩
            rw[←hc0] at hc;refine Rr ?_;rw[hw1];refine Rr ?_;repeat((first|refine aC ep ?_|refine aC eq ?_|refine bH ?_);refine Rr ?_)
            refine hc.go ?_;refine Rr ?_;repeat((first|refine aC ep ?_|refine aC eq ?_|refine bH ?_);refine Rr ?_)
            refine aD (fun h=>?_) (fun h=>?_)
            · refine Rr ?_
              refine aA nn ⟨hF ?_,rfl,rfl⟩;intro e;rw[hrs] at e;have:=jP e (k-1) _ _ pg (by rw[show k-1+1=k by omega];exact qg);rw[←hc0] at this;simp at h;omega
            · refine Rr ?_
              refine .mk (k+1) [(0,0)] ⟨by omega,by omega,fun j a b hj ha hb=>?_⟩ (aF _ rfl ⟨aK 0 (.cons (aW _) .nil),trivial⟩ ⟨aI,⟨_,rfl,.wo⟩,trivial⟩) (by omega);rcases UG (j+1) k with hj'|hj'
              · exact hall j a b hj' ha hb
              · have hjk:j=k-1:=by omega
                rw[hjk,pg] at ha;rw[hjk,show k-1+1=k by omega,qg] at hb;cases ha;cases hb;rw[←hc0];simpa using h
          · have hge:vals.length<=k:=G5 h
            refine Rr ?_;refine aA nn ⟨?_,rfl,rfl⟩;rw[hrs,jV fun j a b ha hb=>hall j a b (by have:=(T0.1 hb).1;omega) ha hb]
  · refine Rr ?_
    refine hub.go ?_ (.cons (aW _) .nil);cases ub with
    | false=>
      refine Rr ?_;exact aA nn ⟨hF (by intro e;rw[hres] at e;simp at e),rfl,rfl⟩
    | true=>
      refine Rr ?_;refine bA.at bB (fun k:Nat=>k<=kids.length/\∀(j:Nat) (q:Int),j<k->kids[j]? = some q->0<=q/\q<i)
        (fun k=>⟨[(0,.int .i64 i),(3,.ptr 0 0 0),(6,.int .i64 k)],[(0,.row 57 12 [cN ⟨3,name,lo,hi,ws,ls,vals,kids,.mk vk vn vs vks⟩])],1,136⟩) (fun k=>kids.length-k) 0 [(0,0)] ⟨by simp,by simp⟩
        (aF _ rfl ⟨aK 0 (.cons (aW _) .nil),trivial⟩ ⟨aJ,aI,aJ,trivial⟩) ?_
      rintro k ⟨hk,hall⟩;refine Rr ?_;refine aD (fun h=>?_) (fun h=>?_)
      · have hlt:k<kids.length:=by rw[aH] at h;simpa using h
        have e1:(bG kids)[(k:Int).toNat]? = some (.int .i64 kids[k]):=by rw[T4,bL,Ty hlt];rfl
        have hg:kids[k]? = some kids[k]:=Ty hlt;generalize kids[k]=q at e1 hg;have hbad:(0<=q/\q<i->False)->AV.bool false=AV.bool res:=fun hb=>hF (by
          intro e;rw[hres] at e;simp only[Tz] at e;exact hb (dX.1 e.1.1.1.1.2 k q hg))
        refine Rr ?_;refine aC e1 ?_;refine Rr ?_;refine aD (fun h=>?_) (fun h=>?_)
        · rw[h]
          refine Rr ?_;exact aA nn ⟨hbad (by simp at h;omega),rfl,rfl⟩
        · have g1:0<=q:=by simpa using h
          rw[h];refine Rr ?_;refine aC e1 ?_;refine Rr ?_;refine aD (fun h=>?_) (fun h=>?_)
          · refine Rr ?_
            exact aA nn ⟨hbad (by simp at h;omega),rfl,rfl⟩
          · have g2:q<i:=by simpa using h
            refine Rr ?_;refine .mk (k+1) [(0,0)] ⟨by omega,fun j w2 hj hw2=>?_⟩ (aF _ rfl ⟨aK 0 (.cons (aW _) .nil),trivial⟩ ⟨aJ,aI,⟨_,rfl,.wo⟩,trivial⟩) (by omega);rcases UG j k with hj'|hj'
            · exact hall j w2 hj' hw2
            · have hjk:j=k:=by omega
              rw[hjk,hg] at hw2;cases hw2;exact⟨g1,g2⟩
      · have hk':k=kids.length:=by rw[aH] at h;simp at h;omega
        have hkin:mM i kids=true:=dX.2 fun j q hj=>hall j q (by rw[hk'];exact(T0.1 hj).1) hj
        clear hall h hk hk';refine Rr ?_;repeat' (refine aD (fun h=>?_) (fun h=>?_)<;>((try rw[h]);refine Rr ?_))
        all_goals first
          | exact aA nn ⟨hF (by
              intro e;rw[hres] at e;clear hub hcb hcmp hF;simp_all[aH,cA];try omega),rfl,rfl⟩
          | (refine hcb.go ?_
             cases cb<;>refine Rr ?_<;>(repeat' (refine aD (fun h=>?_) (fun h=>?_)<;>((try rw[h]);refine Rr ?_))))
        all_goals first
          | exact aA nn ⟨hF (by
              intro e;rw[hres] at e;clear hub hcb hcmp hF;simp_all[aH,cA,aB];try omega),rfl,rfl⟩
          | skip
        all_goals
          have hrs:res=dQ vals:=by
            rw[hres];clear hub hcb hcmp hF;simp_all[aH,cA,aB];try omega
          refine bA.at bB (fun k:Nat=>1<=k/\k<=max 1 vals.length/\∀(j:Nat) (a b:aT),j+1<k->vals[j]? = some a->vals[j+1]? = some b->bR a b<0)
            (fun k=>⟨[(3,.ptr 0 0 0),(9,.int .i64 k)],[(0,.row 57 12 [cN ⟨3,name,lo,hi,ws,ls,vals,kids,.mk vk vn vs vks⟩])],1,136⟩) (fun k=>vals.length-k) 1 [(0,0)] ⟨by omega,by omega,fun j a b hj=>by omega⟩
            (aF _ rfl ⟨aK 0 (.cons (aW _) .nil),trivial⟩ ⟨aI,aJ,trivial⟩) ?_
          rintro k ⟨hk1,hk2,hall⟩;refine Rr ?_;refine aD (fun h=>?_) (fun h=>?_)
          · have hlt:k<vals.length:=GE h
            obtain⟨p1,p2,p3,p4,pm,pg,-,ep⟩:=bZ (l:=vals) (k:=k-1) (by omega);obtain⟨q1,q2,q3,q4,qm,qg,-,eq⟩:=bZ (l:=vals) (k:=k) hlt;have hw1:IntKind.i64.wrap ((k:Int)-1)=((k-1:Nat):Int):=w64 (by omega) ⟨by omega,by omega⟩;have hc:=hcmp _ pm (.mk q1 q2 q3 q4);obtain⟨c,hc0⟩:∃c,c=bR (.mk p1 p2 p3 p4) (.mk q1 q2 q3 q4):=⟨_,rfl⟩
            rw[←hc0] at hc;refine Rr ?_;rw[hw1];refine Rr ?_;repeat((first|refine aC ep ?_|refine aC eq ?_|refine bH ?_);refine Rr ?_)
            refine hc.go ?_;refine Rr ?_;repeat((first|refine aC ep ?_|refine aC eq ?_|refine bH ?_);refine Rr ?_)
            refine aD (fun h=>?_) (fun h=>?_)
            · refine Rr ?_
              refine aA nn ⟨hF ?_,rfl,rfl⟩;intro e;rw[hrs] at e;have:=jP e (k-1) _ _ pg (by rw[show k-1+1=k by omega];exact qg);rw[←hc0] at this;simp at h;omega
            · refine Rr ?_
              refine .mk (k+1) [(0,0)] ⟨by omega,by omega,fun j a b hj ha hb=>?_⟩ (aF _ rfl ⟨aK 0 (.cons (aW _) .nil),trivial⟩ ⟨aI,⟨_,rfl,.wo⟩,trivial⟩) (by omega);rcases UG (j+1) k with hj'|hj'
              · exact hall j a b hj' ha hb
              · have hjk:j=k-1:=by omega
                rw[hjk,pg] at ha;rw[hjk,show k-1+1=k by omega,qg] at hb;cases ha;cases hb;rw[←hc0];simpa using h
          · have hge:vals.length<=k:=G5 h
            refine Rr ?_;refine aA nn ⟨?_,rfl,rfl⟩;rw[hrs,jV fun j a b ha hb=>hall j a b (by have:=(T0.1 hb).1;omega) ha hb]
  · refine Rr ?_
    refine hub.go ?_ (.cons (aW _) .nil);cases ub with
    | false=>
      refine Rr ?_;exact aA nn ⟨hF (by intro e;rw[hres] at e;simp at e),rfl,rfl⟩
    | true=>
      refine Rr ?_;refine bA.at bB (fun k:Nat=>k<=kids.length/\∀(j:Nat) (q:Int),j<k->kids[j]? = some q->0<=q/\q<i)
        (fun k=>⟨[(0,.int .i64 i),(3,.ptr 0 0 0),(6,.int .i64 k)],[(0,.row 57 12 [cN ⟨4,name,lo,hi,ws,ls,vals,kids,.mk vk vn vs vks⟩])],1,136⟩) (fun k=>kids.length-k) 0 [(0,0)] ⟨by simp,by simp⟩
        (aF _ rfl ⟨aK 0 (.cons (aW _) .nil),trivial⟩ ⟨aJ,aI,aJ,trivial⟩) ?_
      rintro k ⟨hk,hall⟩;refine Rr ?_;refine aD (fun h=>?_) (fun h=>?_)
      · have hlt:k<kids.length:=by rw[aH] at h;simpa using h
        have e1:(bG kids)[(k:Int).toNat]? = some (.int .i64 kids[k]):=by rw[T4,bL,Ty hlt];rfl
        have hg:kids[k]? = some kids[k]:=Ty hlt;generalize kids[k]=q at e1 hg;have hbad:(0<=q/\q<i->False)->AV.bool false=AV.bool res:=fun hb=>hF (by
          intro e;rw[hres] at e;simp only[Tz] at e;exact hb (dX.1 e.1.1.1.1.2 k q hg))
        refine Rr ?_;refine aC e1 ?_;refine Rr ?_;refine aD (fun h=>?_) (fun h=>?_)
        · rw[h]
          refine Rr ?_;exact aA nn ⟨hbad (by simp at h;omega),rfl,rfl⟩
        · have g1:0<=q:=by simpa using h
          rw[h];refine Rr ?_;refine aC e1 ?_;refine Rr ?_;refine aD (fun h=>?_) (fun h=>?_)
          · refine Rr ?_
            exact aA nn ⟨hbad (by simp at h;omega),rfl,rfl⟩
          · have g2:q<i:=by simpa using h
            refine Rr ?_;refine .mk (k+1) [(0,0)] ⟨by omega,fun j w2 hj hw2=>?_⟩ (aF _ rfl ⟨aK 0 (.cons (aW _) .nil),trivial⟩ ⟨aJ,aI,⟨_,rfl,.wo⟩,trivial⟩) (by omega);rcases UG j k with hj'|hj'
            · exact hall j w2 hj' hw2
            · have hjk:j=k:=by omega
              rw[hjk,hg] at hw2;cases hw2;exact⟨g1,g2⟩
      · have hk':k=kids.length:=by rw[aH] at h;simp at h;omega
        have hkin:mM i kids=true:=dX.2 fun j q hj=>hall j q (by rw[hk'];exact(T0.1 hj).1) hj
        clear hall h hk hk';refine Rr ?_;repeat' (refine aD (fun h=>?_) (fun h=>?_)<;>((try rw[h]);refine Rr ?_))
        all_goals first
          | exact aA nn ⟨hF (by
              intro e;rw[hres] at e;clear hub hcb hcmp hF;simp_all[aH,cA];try omega),rfl,rfl⟩
          | (refine hcb.go ?_
             cases cb<;>refine Rr ?_<;>(repeat' (refine aD (fun h=>?_) (fun h=>?_)<;>((try rw[h]);refine Rr ?_))))
        all_goals first
          | exact aA nn ⟨hF (by
              intro e;rw[hres] at e;clear hub hcb hcmp hF;simp_all[aH,cA,aB];try omega),rfl,rfl⟩
          | skip
        all_goals
          have hrs:res=dQ vals:=by
            rw[hres];clear hub hcb hcmp hF;simp_all[aH,cA,aB];try omega
          refine bA.at bB (fun k:Nat=>1<=k/\k<=max 1 vals.length/\∀(j:Nat) (a b:aT),j+1<k->vals[j]? = some a->vals[j+1]? = some b->bR a b<0)
            (fun k=>⟨[(3,.ptr 0 0 0),(9,.int .i64 k)],[(0,.row 57 12 [cN ⟨4,name,lo,hi,ws,ls,vals,kids,.mk vk vn vs vks⟩])],1,136⟩) (fun k=>vals.length-k) 1 [(0,0)] ⟨by omega,by omega,fun j a b hj=>by omega⟩
            (aF _ rfl ⟨aK 0 (.cons (aW _) .nil),trivial⟩ ⟨aI,aJ,trivial⟩) ?_
          rintro k ⟨hk1,hk2,hall⟩;refine Rr ?_;refine aD (fun h=>?_) (fun h=>?_)
          · have hlt:k<vals.length:=GE h
            obtain⟨p1,p2,p3,p4,pm,pg,-,ep⟩:=bZ (l:=vals) (k:=k-1) (by omega);obtain⟨q1,q2,q3,q4,qm,qg,-,eq⟩:=bZ (l:=vals) (k:=k) hlt;have hw1:IntKind.i64.wrap ((k:Int)-1)=((k-1:Nat):Int):=w64 (by omega) ⟨by omega,by omega⟩;have hc:=hcmp _ pm (.mk q1 q2 q3 q4);obtain⟨c,hc0⟩:∃c,c=bR (.mk p1 p2 p3 p4) (.mk q1 q2 q3 q4):=⟨_,rfl⟩
            rw[←hc0] at hc;refine Rr ?_;rw[hw1];refine Rr ?_;repeat((first|refine aC ep ?_|refine aC eq ?_|refine bH ?_);refine Rr ?_)
            refine hc.go ?_;refine Rr ?_;repeat((first|refine aC ep ?_|refine aC eq ?_|refine bH ?_);refine Rr ?_)
            refine aD (fun h=>?_) (fun h=>?_)
            · refine Rr ?_
              refine aA nn ⟨hF ?_,rfl,rfl⟩;intro e;rw[hrs] at e;have:=jP e (k-1) _ _ pg (by rw[show k-1+1=k by omega];exact qg);rw[←hc0] at this;simp at h;omega
            · refine Rr ?_
              refine .mk (k+1) [(0,0)] ⟨by omega,by omega,fun j a b hj ha hb=>?_⟩ (aF _ rfl ⟨aK 0 (.cons (aW _) .nil),trivial⟩ ⟨aI,⟨_,rfl,.wo⟩,trivial⟩) (by omega);rcases UG (j+1) k with hj'|hj'
              · exact hall j a b hj' ha hb
              · have hjk:j=k-1:=by omega
                rw[hjk,pg] at ha;rw[hjk,show k-1+1=k by omega,qg] at hb;cases ha;cases hb;rw[←hc0];simpa using h
          · have hge:vals.length<=k:=G5 h
            refine Rr ?_;refine aA nn ⟨?_,rfl,rfl⟩;rw[hrs,jV fun j a b ha hb=>hall j a b (by have:=(T0.1 hb).1;omega) ha hb]
  · refine Rr ?_
    refine hub.go ?_ (.cons (aW _) .nil);cases ub with
    | false=>
      refine Rr ?_;exact aA nn ⟨hF (by intro e;rw[hres] at e;simp at e),rfl,rfl⟩
    | true=>
      refine Rr ?_;repeat' (refine aD (fun h=>?_) (fun h=>?_)<;>((try rw[h]);refine Rr ?_))
      all_goals first
        | exact aA nn ⟨hF (by intro e;rw[hres] at e;simp at e;omega),rfl,rfl⟩
        | (exfalso
           simp at *;omega)
end Go.Proofs.YtidjhgajglebnaaGreatDoor
