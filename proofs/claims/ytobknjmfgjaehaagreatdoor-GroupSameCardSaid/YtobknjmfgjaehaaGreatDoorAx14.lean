/- A part of the proof. -/
import Derived.Test.YtobknjmfgjaehaaGreatDoorAx13
set_option linter.unusedVariables false
set_option linter.unusedSimpArgs false
set_option linter.unusedSectionVars false
namespace Go.Proofs.YtobknjmfgjaehaaGreatDoor
open Go Go.Ax Go.Proofs Tryz
set_option maxRecDepth 100000
set_option maxHeartbeats 8000000
theorem Io(i:Nat)(x:Nd)(hi:i<=4294967296)(hx:qG x):a8 prog [] 112 [.int .i64 i,cH x] (.bool (cX i x)):=by
  have b1:=hx.kids;have b2:=hx.values;have hcmp:∀a∈x.values,∀b,a8 prog [] 75 [bK a,bK b] (.int .i64 (bW a b)):=fun a ha b=>sL a b (hx.valuesI a ha).1
  have hub:=MQ x;have hcb:=Ob x.name hx.name;have hres:cX i x=(iE x && (decide (0<=x.kind) && decide (x.kind<=4)) && lV i x.kids && (decide (x.kind≠2) || (decide (1<=x.kids.length) && decide (x.kids.length<=256) && decide (x.weights.length=x.kids.length) && (decide (x.labels.length=0) || decide (x.labels.length=x.kids.length)))) &&
    (decide (x.kind≠3) || (decide (x.kids.length<=256) && (decide (x.name=[]) || (eG x.name && decide (x.kids.length<=16))))) && (decide (x.kind≠4) || decide (x.kids.length=x.values.length+1)) && dN x.values):=rfl
  clear hx;generalize cX i x=res at hres;generalize iE x=ub at hub hres;generalize eG x.name=cb at hcb hres;obtain⟨kind,name,lo,hi,ws,ls,vals,kids,⟨vk,vn,vs,vks⟩⟩:=x;simp only at b1 b2 hres hcmp hcb;have hw4:IntKind.i64.wrap ((vals.length:Int)+1)=(vals.length:Int)+1:=w64 rfl ⟨om,om⟩;have hF:(res=true->False)->AV.bool false=AV.bool res:=fun h1=>by
    cases hr:res with
    | false=>rfl
    | true=>exact(h1 hr).elim
  refine aM bG func112 rfl ?_;rcases(show kind=0∨kind=1∨kind=2∨kind=3∨kind=4∨(kind<0∨4<kind) by omega) with rfl|rfl|rfl|rfl|rfl|hk
  · refine Rr ?_
    refine hub.go ?_ (.cons (a6 _) .nil);cases ub with
    | false=>
      refine Rr ?_;exact aB nn ⟨hF (by intro e;rw[hres] at e;simp at e),rfl,rfl⟩
    | true=>
      refine Rr ?_;refine a9.at bG (fun k:Nat=>k<=kids.length/\∀(j:Nat) (q:Int),j<k->kids[j]? = some q->0<=q/\q<i)
        (fun k=>⟨[(0,.int .i64 i),(3,.ptr 0 0 0),(6,.int .i64 k)],[(0,.row 83 12 [cH ⟨0,name,lo,hi,ws,ls,vals,kids,.mk vk vn vs vks⟩])],1,136⟩) (fun k=>kids.length-k) 0 [(0,0)] ⟨by simp,by simp⟩
        (aE _ rfl ⟨aJ 0 (.cons (a6 _) .nil),trivial⟩ ⟨aF,aK,aF,trivial⟩) ?_
      rintro k ⟨hk,hall⟩;refine Rr ?_;refine aH (fun h=>?_) (fun h=>?_)
      · have hlt:k<kids.length:=by rw[aD] at h;simpa using h
        have e1:(aT kids)[(k:Int).toNat]? = some (.int .i64 kids[k]):=by rw[Int.toNat_natCast,bF,List.getElem?_eq_getElem hlt];rfl
        have hg:kids[k]? = some kids[k]:=List.getElem?_eq_getElem hlt;generalize kids[k]=q at e1 hg;have hbad:(0<=q/\q<i->False)->AV.bool false=AV.bool res:=fun hb=>hF (by
          intro e;rw[hres] at e;simp only[Bool.and_eq_true] at e;exact hb (dY.1 e.1.1.1.1.2 k q hg))
        refine Rr ?_;refine aC e1 ?_;refine Rr ?_;refine aH (fun h=>?_) (fun h=>?_)
        · rw[h]
          refine Rr ?_;exact aB nn ⟨hbad (by simp at h;omega),rfl,rfl⟩
        · have g1:0<=q:=by simpa using h
          rw[h];refine Rr ?_;refine aC e1 ?_;refine Rr ?_;refine aH (fun h=>?_) (fun h=>?_)
          · refine Rr ?_
            exact aB nn ⟨hbad (by simp at h;omega),rfl,rfl⟩
          · have g2:q<i:=by simpa using h
            refine Rr ?_;refine .mk (k+1) [(0,0)] ⟨om,fun j w2 hj hw2=>?_⟩ (aE _ rfl ⟨aJ 0 (.cons (a6 _) .nil),trivial⟩ ⟨aF,aK,⟨_,rfl,.w64 om ⟨om,om⟩⟩,trivial⟩) om;rcases Nat.lt_or_ge j k with hj'|hj'
            · exact hall j w2 hj' hw2
            · have hjk:j=k:=om
              rw[hjk,hg] at hw2;cases hw2;exact⟨g1,g2⟩
      · have hk':k=kids.length:=by rw[aD] at h;simp at h;omega
        have hkin:lV i kids=true:=dY.2 fun j q hj=>hall j q (by rw[hk'];exact(List.getElem?_eq_some_iff.1 hj).1) hj
        clear hall h hk hk';refine Rr ?_;repeat' (refine aH (fun h=>?_) (fun h=>?_)<;>((try rw[h]);refine Rr ?_))
        all_goals first
          | exact aB nn ⟨hF (by
              intro e;rw[hres] at e;clear hub hcb hcmp hF;simp_all[aD,bZ];try omega),rfl,rfl⟩
          | (refine hcb.go ?_
             cases cb<;>refine Rr ?_<;>(repeat' (refine aH (fun h=>?_) (fun h=>?_)<;>((try rw[h]);refine Rr ?_))))
        all_goals first
          | exact aB nn ⟨hF (by
              intro e;rw[hres] at e;clear hub hcb hcmp hF;simp_all[aD,bZ,aA];try omega),rfl,rfl⟩
          | skip
        all_goals
          have hrs:res=dN vals:=by
            rw[hres];clear hub hcb hcmp hF;simp_all[aD,bZ,aA];try omega
          refine a9.at bG (fun k:Nat=>1<=k/\k<=max 1 vals.length/\∀(j:Nat) (a b:a7),j+1<k->vals[j]? = some a->vals[j+1]? = some b->bW a b<0)
            (fun k=>⟨[(3,.ptr 0 0 0),(9,.int .i64 k)],[(0,.row 83 12 [cH ⟨0,name,lo,hi,ws,ls,vals,kids,.mk vk vn vs vks⟩])],1,136⟩) (fun k=>vals.length-k) 1 [(0,0)] ⟨om,om,fun j a b hj=>om⟩
            (aE _ rfl ⟨aJ 0 (.cons (a6 _) .nil),trivial⟩ ⟨aK,aF,trivial⟩) ?_
          rintro k ⟨hk1,hk2,hall⟩;refine Rr ?_;refine aH (fun h=>?_) (fun h=>?_)
          · have hlt:k<vals.length:=El h
            obtain⟨p1,p2,p3,p4,pm,pg,-,ep⟩:=bX (l:=vals) (k:=k-1) om;obtain⟨q1,q2,q3,q4,qm,qg,-,eq⟩:=bX (l:=vals) (k:=k) hlt;have hw1:IntKind.i64.wrap ((k:Int)-1)=((k-1:Nat):Int):=w64 om ⟨om,om⟩;have hc:=hcmp _ pm (.mk q1 q2 q3 q4);obtain⟨c,hc0⟩:∃c,c=bW (.mk p1 p2 p3 p4) (.mk q1 q2 q3 q4):=⟨_,rfl⟩
            rw[←hc0] at hc;refine Rr ?_;rw[hw1];refine Rr ?_;repeat((first|refine aC ep ?_|refine aC eq ?_|refine aX ?_);refine Rr ?_)
            refine hc.go ?_;refine Rr ?_;repeat((first|refine aC ep ?_|refine aC eq ?_|refine aX ?_);refine Rr ?_)
            refine aH (fun h=>?_) (fun h=>?_)
            · refine Rr ?_
              refine aB nn ⟨hF ?_,rfl,rfl⟩;intro e;rw[hrs] at e;have:=iX e (k-1) _ _ pg (by rw[show k-1+1=k by omega];exact qg);rw[←hc0] at this;simp at h;omega
            · refine Rr ?_
              refine .mk (k+1) [(0,0)] ⟨om,om,fun j a b hj ha hb=>?_⟩ (aE _ rfl ⟨aJ 0 (.cons (a6 _) .nil),trivial⟩ ⟨aK,⟨_,rfl,.w64 om ⟨om,om⟩⟩,trivial⟩) om;rcases Nat.lt_or_ge (j+1) k with hj'|hj'
              · exact hall j a b hj' ha hb
              · have hjk:j=k-1:=om
                rw[hjk,pg] at ha;rw[hjk,show k-1+1=k by omega,qg] at hb;cases ha;cases hb;rw[←hc0];simpa using h
          · have hge:vals.length<=k:=EM h
            refine Rr ?_;refine aB nn ⟨?_,rfl,rfl⟩;rw[hrs,iZ fun j a b ha hb=>hall j a b (by have:=(List.getElem?_eq_some_iff.1 hb).1;omega) ha hb]
  · refine Rr ?_
    refine hub.go ?_ (.cons (a6 _) .nil);cases ub with
    | false=>
      refine Rr ?_;exact aB nn ⟨hF (by intro e;rw[hres] at e;simp at e),rfl,rfl⟩
    | true=>
      refine Rr ?_;refine a9.at bG (fun k:Nat=>k<=kids.length/\∀(j:Nat) (q:Int),j<k->kids[j]? = some q->0<=q/\q<i)
        (fun k=>⟨[(0,.int .i64 i),(3,.ptr 0 0 0),(6,.int .i64 k)],[(0,.row 83 12 [cH ⟨1,name,lo,hi,ws,ls,vals,kids,.mk vk vn vs vks⟩])],1,136⟩) (fun k=>kids.length-k) 0 [(0,0)] ⟨by simp,by simp⟩
        (aE _ rfl ⟨aJ 0 (.cons (a6 _) .nil),trivial⟩ ⟨aF,aK,aF,trivial⟩) ?_
      rintro k ⟨hk,hall⟩;refine Rr ?_;refine aH (fun h=>?_) (fun h=>?_)
      · have hlt:k<kids.length:=by rw[aD] at h;simpa using h
        have e1:(aT kids)[(k:Int).toNat]? = some (.int .i64 kids[k]):=by rw[Int.toNat_natCast,bF,List.getElem?_eq_getElem hlt];rfl
        have hg:kids[k]? = some kids[k]:=List.getElem?_eq_getElem hlt;generalize kids[k]=q at e1 hg;have hbad:(0<=q/\q<i->False)->AV.bool false=AV.bool res:=fun hb=>hF (by
          intro e;rw[hres] at e;simp only[Bool.and_eq_true] at e;exact hb (dY.1 e.1.1.1.1.2 k q hg))
        refine Rr ?_;refine aC e1 ?_;refine Rr ?_;refine aH (fun h=>?_) (fun h=>?_)
        · rw[h]
          refine Rr ?_;exact aB nn ⟨hbad (by simp at h;omega),rfl,rfl⟩
        · have g1:0<=q:=by simpa using h
          rw[h];refine Rr ?_;refine aC e1 ?_;refine Rr ?_;refine aH (fun h=>?_) (fun h=>?_)
          · refine Rr ?_
            exact aB nn ⟨hbad (by simp at h;omega),rfl,rfl⟩
          · have g2:q<i:=by simpa using h
            refine Rr ?_;refine .mk (k+1) [(0,0)] ⟨om,fun j w2 hj hw2=>?_⟩ (aE _ rfl ⟨aJ 0 (.cons (a6 _) .nil),trivial⟩ ⟨aF,aK,⟨_,rfl,.w64 om ⟨om,om⟩⟩,trivial⟩) om;rcases Nat.lt_or_ge j k with hj'|hj'
            · exact hall j w2 hj' hw2
            · have hjk:j=k:=om
              rw[hjk,hg] at hw2;cases hw2;exact⟨g1,g2⟩
      · have hk':k=kids.length:=by rw[aD] at h;simp at h;omega
        have hkin:lV i kids=true:=dY.2 fun j q hj=>hall j q (by rw[hk'];exact(List.getElem?_eq_some_iff.1 hj).1) hj
        clear hall h hk hk';refine Rr ?_;repeat' (refine aH (fun h=>?_) (fun h=>?_)<;>((try rw[h]);refine Rr ?_))
        all_goals first
          | exact aB nn ⟨hF (by
              intro e;rw[hres] at e;clear hub hcb hcmp hF;simp_all[aD,bZ];try omega),rfl,rfl⟩
          | (refine hcb.go ?_
             cases cb<;>refine Rr ?_<;>(repeat' (refine aH (fun h=>?_) (fun h=>?_)<;>((try rw[h]);refine Rr ?_))))
        all_goals first
          | exact aB nn ⟨hF (by
              intro e;rw[hres] at e;clear hub hcb hcmp hF;simp_all[aD,bZ,aA];try omega),rfl,rfl⟩
          | skip
        all_goals
          have hrs:res=dN vals:=by
            rw[hres];clear hub hcb hcmp hF;simp_all[aD,bZ,aA];try omega
          refine a9.at bG (fun k:Nat=>1<=k/\k<=max 1 vals.length/\∀(j:Nat) (a b:a7),j+1<k->vals[j]? = some a->vals[j+1]? = some b->bW a b<0)
            (fun k=>⟨[(3,.ptr 0 0 0),(9,.int .i64 k)],[(0,.row 83 12 [cH ⟨1,name,lo,hi,ws,ls,vals,kids,.mk vk vn vs vks⟩])],1,136⟩) (fun k=>vals.length-k) 1 [(0,0)] ⟨om,om,fun j a b hj=>om⟩
            (aE _ rfl ⟨aJ 0 (.cons (a6 _) .nil),trivial⟩ ⟨aK,aF,trivial⟩) ?_
          rintro k ⟨hk1,hk2,hall⟩;refine Rr ?_;refine aH (fun h=>?_) (fun h=>?_)
          · have hlt:k<vals.length:=El h
            obtain⟨p1,p2,p3,p4,pm,pg,-,ep⟩:=bX (l:=vals) (k:=k-1) om;obtain⟨q1,q2,q3,q4,qm,qg,-,eq⟩:=bX (l:=vals) (k:=k) hlt;have hw1:IntKind.i64.wrap ((k:Int)-1)=((k-1:Nat):Int):=w64 om ⟨om,om⟩;have hc:=hcmp _ pm (.mk q1 q2 q3 q4);obtain⟨c,hc0⟩:∃c,c=bW (.mk p1 p2 p3 p4) (.mk q1 q2 q3 q4):=⟨_,rfl⟩
            rw[←hc0] at hc;refine Rr ?_;rw[hw1];refine Rr ?_;repeat((first|refine aC ep ?_|refine aC eq ?_|refine aX ?_);refine Rr ?_)
            refine hc.go ?_;refine Rr ?_;repeat((first|refine aC ep ?_|refine aC eq ?_|refine aX ?_);refine Rr ?_)
            refine aH (fun h=>?_) (fun h=>?_)
            · refine Rr ?_
              refine aB nn ⟨hF ?_,rfl,rfl⟩;intro e;rw[hrs] at e;have:=iX e (k-1) _ _ pg (by rw[show k-1+1=k by omega];exact qg);rw[←hc0] at this;simp at h;omega
            · refine Rr ?_
              refine .mk (k+1) [(0,0)] ⟨om,om,fun j a b hj ha hb=>?_⟩ (aE _ rfl ⟨aJ 0 (.cons (a6 _) .nil),trivial⟩ ⟨aK,⟨_,rfl,.w64 om ⟨om,om⟩⟩,trivial⟩) om;rcases Nat.lt_or_ge (j+1) k with hj'|hj'
              · exact hall j a b hj' ha hb
              · have hjk:j=k-1:=om
                rw[hjk,pg] at ha;rw[hjk,show k-1+1=k by omega,qg] at hb;cases ha;cases hb;rw[←hc0];simpa using h
          · have hge:vals.length<=k:=EM h
            refine Rr ?_;refine aB nn ⟨?_,rfl,rfl⟩;rw[hrs,iZ fun j a b ha hb=>hall j a b (by have:=(List.getElem?_eq_some_iff.1 hb).1;omega) ha hb]
  · refine Rr ?_
    refine hub.go ?_ (.cons (a6 _) .nil);cases ub with
    | false=>
      refine Rr ?_;exact aB nn ⟨hF (by intro e;rw[hres] at e;simp at e),rfl,rfl⟩
    | true=>
      refine Rr ?_;refine a9.at bG (fun k:Nat=>k<=kids.length/\∀(j:Nat) (q:Int),j<k->kids[j]? = some q->0<=q/\q<i)
        (fun k=>⟨[(0,.int .i64 i),(3,.ptr 0 0 0),(6,.int .i64 k)],[(0,.row 83 12 [cH ⟨2,name,lo,hi,ws,ls,vals,kids,.mk vk vn vs vks⟩])],1,136⟩) (fun k=>kids.length-k) 0 [(0,0)] ⟨by simp,by simp⟩
        (aE _ rfl ⟨aJ 0 (.cons (a6 _) .nil),trivial⟩ ⟨aF,aK,aF,trivial⟩) ?_
      rintro k ⟨hk,hall⟩;refine Rr ?_;refine aH (fun h=>?_) (fun h=>?_)
      · have hlt:k<kids.length:=by rw[aD] at h;simpa using h
        have e1:(aT kids)[(k:Int).toNat]? = some (.int .i64 kids[k]):=by rw[Int.toNat_natCast,bF,List.getElem?_eq_getElem hlt];rfl
        have hg:kids[k]? = some kids[k]:=List.getElem?_eq_getElem hlt;generalize kids[k]=q at e1 hg;have hbad:(0<=q/\q<i->False)->AV.bool false=AV.bool res:=fun hb=>hF (by
          intro e;rw[hres] at e;simp only[Bool.and_eq_true] at e;exact hb (dY.1 e.1.1.1.1.2 k q hg))
        refine Rr ?_;refine aC e1 ?_;refine Rr ?_;refine aH (fun h=>?_) (fun h=>?_)
        · rw[h]
          refine Rr ?_;exact aB nn ⟨hbad (by simp at h;omega),rfl,rfl⟩
        · have g1:0<=q:=by simpa using h
          rw[h];refine Rr ?_;refine aC e1 ?_;refine Rr ?_;refine aH (fun h=>?_) (fun h=>?_)
          · refine Rr ?_
            exact aB nn ⟨hbad (by simp at h;omega),rfl,rfl⟩
          · have g2:q<i:=by simpa using h
            refine Rr ?_;refine .mk (k+1) [(0,0)] ⟨om,fun j w2 hj hw2=>?_⟩ (aE _ rfl ⟨aJ 0 (.cons (a6 _) .nil),trivial⟩ ⟨aF,aK,⟨_,rfl,.w64 om ⟨om,om⟩⟩,trivial⟩) om;rcases Nat.lt_or_ge j k with hj'|hj'
            · exact hall j w2 hj' hw2
            · have hjk:j=k:=om
              rw[hjk,hg] at hw2;cases hw2;exact⟨g1,g2⟩
      · have hk':k=kids.length:=by rw[aD] at h;simp at h;omega
        have hkin:lV i kids=true:=dY.2 fun j q hj=>hall j q (by rw[hk'];exact(List.getElem?_eq_some_iff.1 hj).1) hj
        clear hall h hk hk';refine Rr ?_;repeat' (refine aH (fun h=>?_) (fun h=>?_)<;>((try rw[h]);refine Rr ?_))
        all_goals first
          | exact aB nn ⟨hF (by
              intro e;rw[hres] at e;clear hub hcb hcmp hF;simp_all[aD,bZ];try omega),rfl,rfl⟩
          | (refine hcb.go ?_
             cases cb<;>refine Rr ?_<;>(repeat' (refine aH (fun h=>?_) (fun h=>?_)<;>((try rw[h]);refine Rr ?_))))
        all_goals first
          | exact aB nn ⟨hF (by
              intro e;rw[hres] at e;clear hub hcb hcmp hF;simp_all[aD,bZ,aA];try omega),rfl,rfl⟩
          | skip
        all_goals
          have hrs:res=dN vals:=by
            rw[hres];clear hub hcb hcmp hF;simp_all[aD,bZ,aA];try omega
          refine a9.at bG (fun k:Nat=>1<=k/\k<=max 1 vals.length/\∀(j:Nat) (a b:a7),j+1<k->vals[j]? = some a->vals[j+1]? = some b->bW a b<0)
            (fun k=>⟨[(3,.ptr 0 0 0),(9,.int .i64 k)],[(0,.row 83 12 [cH ⟨2,name,lo,hi,ws,ls,vals,kids,.mk vk vn vs vks⟩])],1,136⟩) (fun k=>vals.length-k) 1 [(0,0)] ⟨om,om,fun j a b hj=>om⟩
            (aE _ rfl ⟨aJ 0 (.cons (a6 _) .nil),trivial⟩ ⟨aK,aF,trivial⟩) ?_
          rintro k ⟨hk1,hk2,hall⟩;refine Rr ?_;refine aH (fun h=>?_) (fun h=>?_)
          · have hlt:k<vals.length:=El h
            obtain⟨p1,p2,p3,p4,pm,pg,-,ep⟩:=bX (l:=vals) (k:=k-1) om;obtain⟨q1,q2,q3,q4,qm,qg,-,eq⟩:=bX (l:=vals) (k:=k) hlt;have hw1:IntKind.i64.wrap ((k:Int)-1)=((k-1:Nat):Int):=w64 om ⟨om,om⟩;have hc:=hcmp _ pm (.mk q1 q2 q3 q4);obtain⟨c,hc0⟩:∃c,c=bW (.mk p1 p2 p3 p4) (.mk q1 q2 q3 q4):=⟨_,rfl⟩
            rw[←hc0] at hc;refine Rr ?_;rw[hw1];refine Rr ?_;repeat((first|refine aC ep ?_|refine aC eq ?_|refine aX ?_);refine Rr ?_)
            refine hc.go ?_;refine Rr ?_;repeat((first|refine aC ep ?_|refine aC eq ?_|refine aX ?_);refine Rr ?_)
            refine aH (fun h=>?_) (fun h=>?_)
            · refine Rr ?_
              refine aB nn ⟨hF ?_,rfl,rfl⟩;intro e;rw[hrs] at e;have:=iX e (k-1) _ _ pg (by rw[show k-1+1=k by omega];exact qg);rw[←hc0] at this;simp at h;omega
            · refine Rr ?_
              refine .mk (k+1) [(0,0)] ⟨om,om,fun j a b hj ha hb=>?_⟩ (aE _ rfl ⟨aJ 0 (.cons (a6 _) .nil),trivial⟩ ⟨aK,⟨_,rfl,.w64 om ⟨om,om⟩⟩,trivial⟩) om;rcases Nat.lt_or_ge (j+1) k with hj'|hj'
              · exact hall j a b hj' ha hb
              · have hjk:j=k-1:=om
                rw[hjk,pg] at ha;rw[hjk,show k-1+1=k by omega,qg] at hb;cases ha;cases hb;rw[←hc0];simpa using h
          · have hge:vals.length<=k:=EM h
            refine Rr ?_;refine aB nn ⟨?_,rfl,rfl⟩;rw[hrs,iZ fun j a b ha hb=>hall j a b (by have:=(List.getElem?_eq_some_iff.1 hb).1;omega) ha hb]
  · refine Rr ?_
    refine hub.go ?_ (.cons (a6 _) .nil);cases ub with
    | false=>
      refine Rr ?_;exact aB nn ⟨hF (by intro e;rw[hres] at e;simp at e),rfl,rfl⟩
    | true=>
      refine Rr ?_;refine a9.at bG (fun k:Nat=>k<=kids.length/\∀(j:Nat) (q:Int),j<k->kids[j]? = some q->0<=q/\q<i)
        (fun k=>⟨[(0,.int .i64 i),(3,.ptr 0 0 0),(6,.int .i64 k)],[(0,.row 83 12 [cH ⟨3,name,lo,hi,ws,ls,vals,kids,.mk vk vn vs vks⟩])],1,136⟩) (fun k=>kids.length-k) 0 [(0,0)] ⟨by simp,by simp⟩
        (aE _ rfl ⟨aJ 0 (.cons (a6 _) .nil),trivial⟩ ⟨aF,aK,aF,trivial⟩) ?_
      rintro k ⟨hk,hall⟩;refine Rr ?_;refine aH (fun h=>?_) (fun h=>?_)
      · have hlt:k<kids.length:=by rw[aD] at h;simpa using h
        have e1:(aT kids)[(k:Int).toNat]? = some (.int .i64 kids[k]):=by rw[Int.toNat_natCast,bF,List.getElem?_eq_getElem hlt];rfl
        have hg:kids[k]? = some kids[k]:=List.getElem?_eq_getElem hlt;generalize kids[k]=q at e1 hg;have hbad:(0<=q/\q<i->False)->AV.bool false=AV.bool res:=fun hb=>hF (by
          intro e;rw[hres] at e;simp only[Bool.and_eq_true] at e;exact hb (dY.1 e.1.1.1.1.2 k q hg))
        refine Rr ?_;refine aC e1 ?_;refine Rr ?_;refine aH (fun h=>?_) (fun h=>?_)
        · rw[h]
          refine Rr ?_;exact aB nn ⟨hbad (by simp at h;omega),rfl,rfl⟩
        · have g1:0<=q:=by simpa using h
          rw[h];refine Rr ?_;refine aC e1 ?_;refine Rr ?_;refine aH (fun h=>?_) (fun h=>?_)
          · refine Rr ?_
            exact aB nn ⟨hbad (by simp at h;omega),rfl,rfl⟩
          · have g2:q<i:=by simpa using h
            refine Rr ?_;refine .mk (k+1) [(0,0)] ⟨om,fun j w2 hj hw2=>?_⟩ (aE _ rfl ⟨aJ 0 (.cons (a6 _) .nil),trivial⟩ ⟨aF,aK,⟨_,rfl,.w64 om ⟨om,om⟩⟩,trivial⟩) om;rcases Nat.lt_or_ge j k with hj'|hj'
            · exact hall j w2 hj' hw2
            · have hjk:j=k:=om
              rw[hjk,hg] at hw2;cases hw2;exact⟨g1,g2⟩
      · have hk':k=kids.length:=by rw[aD] at h;simp at h;omega
        have hkin:lV i kids=true:=dY.2 fun j q hj=>hall j q (by rw[hk'];exact(List.getElem?_eq_some_iff.1 hj).1) hj
        clear hall h hk hk';refine Rr ?_;repeat' (refine aH (fun h=>?_) (fun h=>?_)<;>((try rw[h]);refine Rr ?_))
        all_goals first
          | exact aB nn ⟨hF (by
              intro e;rw[hres] at e;clear hub hcb hcmp hF;simp_all[aD,bZ];try omega),rfl,rfl⟩
          | (refine hcb.go ?_
             cases cb<;>refine Rr ?_<;>(repeat' (refine aH (fun h=>?_) (fun h=>?_)<;>((try rw[h]);refine Rr ?_))))
        all_goals first
          | exact aB nn ⟨hF (by
              intro e;rw[hres] at e;clear hub hcb hcmp hF;simp_all[aD,bZ,aA];try omega),rfl,rfl⟩
          | skip
        all_goals
          have hrs:res=dN vals:=by
            rw[hres];clear hub hcb hcmp hF;simp_all[aD,bZ,aA];try omega
          refine a9.at bG (fun k:Nat=>1<=k/\k<=max 1 vals.length/\∀(j:Nat) (a b:a7),j+1<k->vals[j]? = some a->vals[j+1]? = some b->bW a b<0)
            (fun k=>⟨[(3,.ptr 0 0 0),(9,.int .i64 k)],[(0,.row 83 12 [cH ⟨3,name,lo,hi,ws,ls,vals,kids,.mk vk vn vs vks⟩])],1,136⟩) (fun k=>vals.length-k) 1 [(0,0)] ⟨om,om,fun j a b hj=>om⟩
            (aE _ rfl ⟨aJ 0 (.cons (a6 _) .nil),trivial⟩ ⟨aK,aF,trivial⟩) ?_
          rintro k ⟨hk1,hk2,hall⟩;refine Rr ?_;refine aH (fun h=>?_) (fun h=>?_)
          · have hlt:k<vals.length:=El h
            obtain⟨p1,p2,p3,p4,pm,pg,-,ep⟩:=bX (l:=vals) (k:=k-1) om;obtain⟨q1,q2,q3,q4,qm,qg,-,eq⟩:=bX (l:=vals) (k:=k) hlt;have hw1:IntKind.i64.wrap ((k:Int)-1)=((k-1:Nat):Int):=w64 om ⟨om,om⟩;have hc:=hcmp _ pm (.mk q1 q2 q3 q4);obtain⟨c,hc0⟩:∃c,c=bW (.mk p1 p2 p3 p4) (.mk q1 q2 q3 q4):=⟨_,rfl⟩
            rw[←hc0] at hc;refine Rr ?_;rw[hw1];refine Rr ?_;repeat((first|refine aC ep ?_|refine aC eq ?_|refine aX ?_);refine Rr ?_)
            refine hc.go ?_;refine Rr ?_;repeat((first|refine aC ep ?_|refine aC eq ?_|refine aX ?_);refine Rr ?_)
            refine aH (fun h=>?_) (fun h=>?_)
            · refine Rr ?_
              refine aB nn ⟨hF ?_,rfl,rfl⟩;intro e;rw[hrs] at e;have:=iX e (k-1) _ _ pg (by rw[show k-1+1=k by omega];exact qg);rw[←hc0] at this;simp at h;omega
            · refine Rr ?_
              refine .mk (k+1) [(0,0)] ⟨om,om,fun j a b hj ha hb=>?_⟩ (aE _ rfl ⟨aJ 0 (.cons (a6 _) .nil),trivial⟩ ⟨aK,⟨_,rfl,.w64 om ⟨om,om⟩⟩,trivial⟩) om;rcases Nat.lt_or_ge (j+1) k with hj'|hj'
              · exact hall j a b hj' ha hb
              · have hjk:j=k-1:=om
                rw[hjk,pg] at ha;rw[hjk,show k-1+1=k by omega,qg] at hb;cases ha;cases hb;rw[←hc0];simpa using h
          · have hge:vals.length<=k:=EM h
            refine Rr ?_;refine aB nn ⟨?_,rfl,rfl⟩;rw[hrs,iZ fun j a b ha hb=>hall j a b (by have:=(List.getElem?_eq_some_iff.1 hb).1;omega) ha hb]
  · refine Rr ?_
    refine hub.go ?_ (.cons (a6 _) .nil);cases ub with
    | false=>
      refine Rr ?_;exact aB nn ⟨hF (by intro e;rw[hres] at e;simp at e),rfl,rfl⟩
    | true=>
      refine Rr ?_;refine a9.at bG (fun k:Nat=>k<=kids.length/\∀(j:Nat) (q:Int),j<k->kids[j]? = some q->0<=q/\q<i)
        (fun k=>⟨[(0,.int .i64 i),(3,.ptr 0 0 0),(6,.int .i64 k)],[(0,.row 83 12 [cH ⟨4,name,lo,hi,ws,ls,vals,kids,.mk vk vn vs vks⟩])],1,136⟩) (fun k=>kids.length-k) 0 [(0,0)] ⟨by simp,by simp⟩
        (aE _ rfl ⟨aJ 0 (.cons (a6 _) .nil),trivial⟩ ⟨aF,aK,aF,trivial⟩) ?_
      rintro k ⟨hk,hall⟩;refine Rr ?_;refine aH (fun h=>?_) (fun h=>?_)
      · have hlt:k<kids.length:=by rw[aD] at h;simpa using h
        have e1:(aT kids)[(k:Int).toNat]? = some (.int .i64 kids[k]):=by rw[Int.toNat_natCast,bF,List.getElem?_eq_getElem hlt];rfl
        have hg:kids[k]? = some kids[k]:=List.getElem?_eq_getElem hlt;generalize kids[k]=q at e1 hg;have hbad:(0<=q/\q<i->False)->AV.bool false=AV.bool res:=fun hb=>hF (by
          intro e;rw[hres] at e;simp only[Bool.and_eq_true] at e;exact hb (dY.1 e.1.1.1.1.2 k q hg))
        refine Rr ?_;refine aC e1 ?_;refine Rr ?_;refine aH (fun h=>?_) (fun h=>?_)
        · rw[h]
          refine Rr ?_;exact aB nn ⟨hbad (by simp at h;omega),rfl,rfl⟩
        · have g1:0<=q:=by simpa using h
          rw[h];refine Rr ?_;refine aC e1 ?_;refine Rr ?_;refine aH (fun h=>?_) (fun h=>?_)
          · refine Rr ?_
            exact aB nn ⟨hbad (by simp at h;omega),rfl,rfl⟩
          · have g2:q<i:=by simpa using h
            refine Rr ?_;refine .mk (k+1) [(0,0)] ⟨om,fun j w2 hj hw2=>?_⟩ (aE _ rfl ⟨aJ 0 (.cons (a6 _) .nil),trivial⟩ ⟨aF,aK,⟨_,rfl,.w64 om ⟨om,om⟩⟩,trivial⟩) om;rcases Nat.lt_or_ge j k with hj'|hj'
            · exact hall j w2 hj' hw2
            · have hjk:j=k:=om
              rw[hjk,hg] at hw2;cases hw2;exact⟨g1,g2⟩
      · have hk':k=kids.length:=by rw[aD] at h;simp at h;omega
        have hkin:lV i kids=true:=dY.2 fun j q hj=>hall j q (by rw[hk'];exact(List.getElem?_eq_some_iff.1 hj).1) hj
        clear hall h hk hk';refine Rr ?_;repeat' (refine aH (fun h=>?_) (fun h=>?_)<;>((try rw[h]);refine Rr ?_))
        all_goals first
          | exact aB nn ⟨hF (by
              intro e;rw[hres] at e;clear hub hcb hcmp hF;simp_all[aD,bZ];try omega),rfl,rfl⟩
          | (refine hcb.go ?_
             cases cb<;>refine Rr ?_<;>(repeat' (refine aH (fun h=>?_) (fun h=>?_)<;>((try rw[h]);refine Rr ?_))))
        all_goals first
          | exact aB nn ⟨hF (by
              intro e;rw[hres] at e;clear hub hcb hcmp hF;simp_all[aD,bZ,aA];try omega),rfl,rfl⟩
          | skip
        all_goals
          have hrs:res=dN vals:=by
            rw[hres];clear hub hcb hcmp hF;simp_all[aD,bZ,aA];try omega
          refine a9.at bG (fun k:Nat=>1<=k/\k<=max 1 vals.length/\∀(j:Nat) (a b:a7),j+1<k->vals[j]? = some a->vals[j+1]? = some b->bW a b<0)
            (fun k=>⟨[(3,.ptr 0 0 0),(9,.int .i64 k)],[(0,.row 83 12 [cH ⟨4,name,lo,hi,ws,ls,vals,kids,.mk vk vn vs vks⟩])],1,136⟩) (fun k=>vals.length-k) 1 [(0,0)] ⟨om,om,fun j a b hj=>om⟩
            (aE _ rfl ⟨aJ 0 (.cons (a6 _) .nil),trivial⟩ ⟨aK,aF,trivial⟩) ?_
          rintro k ⟨hk1,hk2,hall⟩;refine Rr ?_;refine aH (fun h=>?_) (fun h=>?_)
          · have hlt:k<vals.length:=El h
            obtain⟨p1,p2,p3,p4,pm,pg,-,ep⟩:=bX (l:=vals) (k:=k-1) om;obtain⟨q1,q2,q3,q4,qm,qg,-,eq⟩:=bX (l:=vals) (k:=k) hlt;have hw1:IntKind.i64.wrap ((k:Int)-1)=((k-1:Nat):Int):=w64 om ⟨om,om⟩;have hc:=hcmp _ pm (.mk q1 q2 q3 q4);obtain⟨c,hc0⟩:∃c,c=bW (.mk p1 p2 p3 p4) (.mk q1 q2 q3 q4):=⟨_,rfl⟩
            rw[←hc0] at hc;refine Rr ?_;rw[hw1];refine Rr ?_;repeat((first|refine aC ep ?_|refine aC eq ?_|refine aX ?_);refine Rr ?_)
            refine hc.go ?_;refine Rr ?_;repeat((first|refine aC ep ?_|refine aC eq ?_|refine aX ?_);refine Rr ?_)
            refine aH (fun h=>?_) (fun h=>?_)
            · refine Rr ?_
              refine aB nn ⟨hF ?_,rfl,rfl⟩;intro e;rw[hrs] at e;have:=iX e (k-1) _ _ pg (by rw[show k-1+1=k by omega];exact qg);rw[←hc0] at this;simp at h;omega
            · refine Rr ?_
              refine .mk (k+1) [(0,0)] ⟨om,om,fun j a b hj ha hb=>?_⟩ (aE _ rfl ⟨aJ 0 (.cons (a6 _) .nil),trivial⟩ ⟨aK,⟨_,rfl,.w64 om ⟨om,om⟩⟩,trivial⟩) om;rcases Nat.lt_or_ge (j+1) k with hj'|hj'
              · exact hall j a b hj' ha hb
              · have hjk:j=k-1:=om
                rw[hjk,pg] at ha;rw[hjk,show k-1+1=k by omega,qg] at hb;cases ha;cases hb;rw[←hc0];simpa using h
          · have hge:vals.length<=k:=EM h
            refine Rr ?_;refine aB nn ⟨?_,rfl,rfl⟩;rw[hrs,iZ fun j a b ha hb=>hall j a b (by have:=(List.getElem?_eq_some_iff.1 hb).1;omega) ha hb]
  · refine Rr ?_
    refine hub.go ?_ (.cons (a6 _) .nil);cases ub with
    | false=>
      refine Rr ?_;exact aB nn ⟨hF (by intro e;rw[hres] at e;simp at e),rfl,rfl⟩
    | true=>
      refine Rr ?_;repeat' (refine aH (fun h=>?_) (fun h=>?_)<;>((try rw[h]);refine Rr ?_))
      all_goals first
        | exact aB nn ⟨hF (by intro e;rw[hres] at e;simp at e;omega),rfl,rfl⟩
        | (exfalso
           simp at *;omega)
end Go.Proofs.YtobknjmfgjaehaaGreatDoor
