/- A part of the proof. -/
import Derived.Test.YtidjhgajglebnaaGreatDoorAx9
set_option linter.unusedVariables false
set_option linter.unusedSimpArgs false
namespace Go.Ax
open Go
theorem Jd{u:Nat}(h:u<18446744073709551616)(t:List UInt8):vO (nG u++t,0)=(u,(t,0)):=by
 unfold vO;simp only[if_true];rw[Ui t h]
theorem Ha{n:Int}(h:i64 n)(t:List UInt8):nI (gT n++t,0)=(n,(t,0)):=by
 unfold nI gT;rw[Jd (HB h),Te]
theorem O1{s:List UInt8}(h:s.length<18446744073709551616)(t:List UInt8):MP (nG s.length++s++t,0)=(s,(t,0)):=by
 have e:KP (nG s.length++s++t,0)=(s.length,(s++t,0)):=by
  unfold KP;rw[List.append_assoc,Jd h];simp
 unfold MP;rw[e];simp
theorem JL{rec:Rd->Nat->JB}:∀(l acc:List aR) (t:List UInt8) (p:Nat),
  (∀(i:Nat) (v:aR) (t':List UInt8),l[i]? = some v->rec (gR v++t',0) (p+bZ (l.take i))=⟨v,true,(t',0),p+bZ (l.take i)+bB v⟩) ->
  CJ rec l.length acc (gK l++t,0) p=⟨acc++l,true,(t,0),p+bZ l⟩
 | [],acc,t,p,_=>by simp[CJ,gK,bZ]
 | v::r,acc,t,p,h=>by
  have h0:=h 0 v (gK r++t) rfl;simp only[aAy,bZ,aAr] at h0;simp only[ZH,CJ,gK,List.append_assoc];rw[h0];simp only[if_true];rw[JL r (acc++[v]) t (p+bB v) (fun i x t' hi=>by
   have:=h (i+1) x t' (by simpa using hi);simp only[aAs,bZ] at this;rw[show p+bB v+bZ (r.take i)=p+(bB v+bZ (r.take i)) by omega];exact this)]
  simp[bZ];omega
theorem Fl:∀{l:List aR},AZ l=true->∀{v:aR},v∈l->yE v=true
 | a::r,h,v,hv=>by
  simp only[AZ,Yk] at h;rcases Yr.1 hv with rfl|hv
  ·exact h.1
  ·exact Fl h.2 hv
theorem F3:∀(v:aR) (f p:Nat) (t:List UInt8),g9 v->bR v=true->yE v=true->p+bB v<=1024->1025<=f+p->FH f (gR v++t,0) p=⟨v,true,(t,0),p+bB v⟩
 | .mk k n s kids,f,p,t,ho,hf,hw,hp,hfp=>by
  simp only[g9] at ho;simp only[bR,Yk] at hf;simp only[yE,Yk] at hw;simp only[bB] at hp;obtain⟨g,rfl⟩:∃g,f=g+1:=⟨f-1,by omega⟩
  have h1:=hf.1;have hkl:kids.length<=256:=by have:=hw.1;unfold vT at this;simp at this;omega
  have hrec:∀(q:Nat),p+1=q->∀(i:Nat) (v:aR) (t':List UInt8),kids[i]? = some v->FH g (gR v++t',0) (q+bZ (kids.take i))=⟨v,true,(t',0),q+bZ (kids.take i)+bB v⟩:=by
   intro q hq i v t' hi;have hil:=(Yn.1 hi).1;have hm:=Yv hi;have hs:=qV (l:=kids) (k:=i) hil;have hs2:=kY kids (i+1);have e:kids[i]=v:=by rw[Yj hil] at hi;exact Option.some.inj hi
   rw[e] at hs;exact F3 v g (q+bZ (kids.take i)) t' (kA ho.2.2.2.2 v hm) (tR hf.2 hm) (Fl hw.2 hm) (by omega) (by omega)
  have hmore:∀(kk:Int) (ss:List UInt8),MJ (FH g) kk ss (gT kids.length++(gK kids++t),0) (p+1)=⟨.mk kk 0 ss kids,true,(t,0),p+(1+bZ kids)⟩:=by
   intro kk ss;have e:=JL (rec:=FH g) kids [] t (p+1) (hrec (p+1) rfl);unfold MJ;rw[Ha (C4 (by omega))];simp only;rw[Yo (by omega),Yl,e];simp;omega
  show O0 (FH g) _ p=_
  unfold O0;rw[Yo (by omega),gR,List.append_assoc,Ha ho.1];simp only;unfold cT at h1;by_cases k0:k=0
  ·subst k0;rw[Yt rfl] at h1 ⊢;simp only[Yk,ZA] at h1;obtain⟨rfl,h2⟩:=h1;obtain rfl:kids=[]:=Zn.1 h2;simp only[if_true];rw[Ha ho.2.1];simp[bB,bZ]
  ·rw[Yo k0] at h1;rw[Yo k0,Yo k0];by_cases k1:k=1
   ·subst k1;rw[Yt rfl] at h1;rw[Yt rfl,Yt rfl];simp only[Yk,ZA,Zy] at h1;obtain⟨⟨hn,rfl⟩,h2⟩:=h1;obtain rfl:kids=[]:=Zn.1 h2;rcases hn with rfl|rfl<;>simp[PJ,bB,bZ]
   ·rw[Yo k1] at h1;rw[Yo k1,Yo k1];by_cases k2:k=2
    ·subst k2;rw[Yt rfl] at h1;simp only[Yk,ZA] at h1;obtain⟨rfl,rfl⟩:=h1;rw[Yt rfl,Yo (by omega),ZS,List.append_assoc,hmore];rfl
    ·rw[Yo k2] at h1;rw[Yo k2];split at h1
     ·rename_i k3;subst k3;simp only[Yk,ZA] at h1;obtain⟨rfl,hc⟩:=h1;rw[Yt rfl,Yt rfl];have e:nG s.length++s++(gT kids.length++gK kids)++t=nG s.length++s++(gT kids.length++(gK kids++t)):=by simp
      rw[e,O1 (by omega)];simp only;rw[hmore];rfl
     ·cases h1
termination_by v f p t=>SizeOf.sizeOf v
decreasing_by
 have:=aAc (Yv hi);simp;omega
def LT(b:List UInt8):aR × Int:=if (FH 1025 (b,0) 0).ok=true/\(FH 1025 (b,0) 0).rd=([],0)/\bP (FH 1025 (b,0) 0).val=0 then((FH 1025 (b,0) 0).val,0) else(.mk 0 0 [] [],2)
theorem CU{v:aR}(ho:g9 v)(h:bP v=0):LT (gR v)=(v,0):=by
 obtain⟨h1,h2,h3⟩:=DI h;have e:=F3 v 1025 0 [] ho h1 h2 (by omega) (by omega);rw[ZZ] at e;unfold LT;rw[e];simp[h]
theorem RB{a b:aR}(ha:g9 a)(hb:g9 b)(va:bP a=0)(vb:bP b=0)(h:gR a=gR b):a=b:=by
 have h1:=CU ha va;have h2:=CU hb vb;rw[h,h2] at h1;exact(congrArg Prod.fst h1).symm
end Go.Ax
